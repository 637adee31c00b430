/- The seat's tables of types and functions, held against the program by the kernel. Written by a program. -/
import Derived.Test.YtpnmjelhnacmlaaKitM
import Derived.Test.YtpnmjelhnacmlaaProg
namespace Go.V
open Go.Proofs
set_option maxRecDepth 100000
theorem mixed : Try.prog.follows .mixedOrders = true := by kernel_rfl
def ldL : List (Nat × (Bool × Nat)) := [(1, (false, 1)), (2, (false, 1)), (3, (false, 1)), (4, (false, 1)), (5, (false, 1)), (6, (false, 1)), (7, (true, 4)), (8, (true, 4)), (9, (false, 1)), (10, (false, 1)), 
    (11, (false, 1)), (12, (false, 1)), (13, (true, 2)), (14, (true, 2)), (15, (false, 1)), (16, (false, 1)), (17, (false, 1)), (18, (true, 1)), (19, (true, 1)), (20, (false, 1)), 
    (21, (false, 1)), (22, (false, 1)), (23, (true, 1)), (24, (true, 1)), (25, (false, 1)), (26, (false, 1)), (27, (false, 1)), (28, (false, 1)), (29, (true, 2)), (30, (true, 2)), 
    (31, (false, 1)), (32, (false, 1)), (33, (true, 2)), (34, (true, 2)), (35, (true, 4)), (36, (true, 4)), (37, (false, 1)), (38, (false, 1)), (40, (false, 1)), (41, (true, 2)), 
    (42, (true, 2)), (43, (true, 3)), (44, (true, 3)), (46, (false, 1)), (47, (false, 1)), (48, (false, 1)), (49, (false, 1)), (50, (false, 1)), (51, (false, 1)), (52, (false, 1)), 
    (53, (false, 1)), (55, (false, 1)), (56, (false, 1)), (57, (true, 3)), (58, (true, 3)), (59, (false, 1)), (61, (false, 1)), (62, (false, 1)), (63, (false, 1)), (64, (false, 1)), 
    (65, (false, 1)), (66, (false, 1)), (68, (false, 1)), (69, (false, 1)), (70, (false, 1)), (71, (false, 1)), (72, (false, 1)), (73, (true, 1)), (74, (true, 1)), (75, (true, 2)), 
    (76, (false, 1)), (77, (false, 1)), (78, (false, 1)), (79, (true, 3)), (80, (true, 6)), (81, (true, 6)), (82, (false, 1)), (83, (false, 1)), (84, (false, 1)), (85, (false, 1)), 
    (86, (false, 1)), (87, (false, 1)), (88, (false, 1)), (89, (false, 1)), (91, (false, 1)), (92, (false, 1)), (93, (false, 1)), (94, (false, 1)), (95, (false, 1)), (96, (false, 1)), 
    (98, (false, 1)), (100, (false, 1)), (101, (false, 1)), (102, (false, 1)), (103, (false, 1)), (104, (false, 1)), (105, (false, 1)), (106, (false, 1)), (107, (false, 1)), 
    (108, (false, 1)), (109, (false, 1)), (110, (false, 1)), (111, (false, 1)), (112, (false, 1)), (113, (false, 1)), (114, (true, 4)), (115, (true, 4)), (117, (false, 1)), 
    (118, (false, 1)), (119, (false, 1)), (120, (false, 1)), (121, (false, 1)), (122, (false, 1)), (123, (false, 1)), (124, (false, 1)), (125, (false, 1)), (126, (false, 1)), 
    (128, (false, 1)), (129, (false, 1)), (130, (false, 1)), (132, (false, 1)), (134, (false, 1)), (135, (false, 1)), (136, (false, 1)), (137, (false, 1)), (138, (false, 1)), 
    (139, (false, 1)), (140, (false, 1)), (141, (false, 1)), (142, (false, 1)), (143, (false, 1)), (144, (true, 4)), (145, (true, 4)), (146, (false, 1)), (147, (false, 1)), 
    (148, (false, 1)), (149, (false, 1)), (150, (false, 1)), (151, (false, 1)), (152, (true, 8)), (153, (true, 8)), (154, (true, 8)), (155, (true, 8)), (156, (false, 1)), 
    (157, (false, 1)), (158, (false, 1)), (159, (false, 1)), (160, (false, 1)), (162, (false, 1)), (163, (false, 1)), (164, (false, 1)), (166, (false, 1)), (167, (false, 1)), 
    (168, (false, 1)), (169, (false, 1)), (170, (false, 1)), (171, (false, 1)), (172, (false, 1)), (173, (false, 1)), (174, (false, 1)), (176, (false, 1)), (177, (false, 1)), 
    (178, (false, 1)), (179, (false, 1)), (180, (false, 1)), (181, (false, 1)), (182, (false, 1)), (183, (false, 1)), (184, (false, 1)), (185, (false, 1)), (186, (false, 1)), 
    (187, (false, 1)), (188, (false, 1)), (189, (false, 1)), (190, (false, 1)), (191, (false, 1)), (192, (false, 1)), (193, (false, 1)), (195, (false, 1)), (196, (false, 1)), 
    (197, (true, 4)), (198, (true, 4)), (199, (true, 0)), (200, (true, 0)), (201, (true, 0)), (202, (false, 1)), (203, (false, 1)), (204, (false, 1)), (205, (false, 1)), 
    (206, (false, 1)), (207, (false, 1)), (208, (true, 11)), (209, (true, 11)), (210, (false, 1)), (211, (false, 1)), (212, (false, 1)), (213, (false, 1)), (214, (false, 1)), 
    (215, (false, 1)), (216, (false, 1)), (217, (false, 1))]
def slL : List (Nat × Nat) := [(22, 5), (25, 44), (37, 36), (62, 3), (72, 75), (76, 81), (95, 9), (112, 115), (122, 38), (216, 145)]
def stL : List (Nat × Unit) := [(9, ()), (10, ()), (11, ())]
def foL : List ((Nat × Nat) × Nat) := [((7, 0), 0), ((7, 1), 1), ((7, 2), 2), ((7, 3), 3), ((8, 0), 0), ((8, 1), 1), ((8, 2), 2), ((8, 3), 3), ((13, 0), 0), ((13, 1), 1), ((14, 0), 0), ((14, 1), 1), ((18, 0), 0), 
    ((19, 0), 0), ((23, 0), 0), ((24, 0), 0), ((29, 0), 0), ((29, 1), 1), ((30, 0), 0), ((30, 1), 1), ((33, 0), 0), ((33, 1), 1), ((34, 0), 0), ((34, 1), 1), ((35, 0), 0), ((35, 1), 2), 
    ((36, 0), 0), ((36, 1), 2), ((41, 0), 0), ((41, 1), 1), ((42, 0), 0), ((42, 1), 1), ((43, 0), 0), ((43, 1), 2), ((44, 0), 0), ((44, 1), 2), ((57, 0), 0), ((57, 1), 1), ((57, 2), 2), 
    ((58, 0), 0), ((58, 1), 1), ((58, 2), 2), ((73, 0), 0), ((74, 0), 0), ((79, 0), 0), ((79, 1), 2), ((80, 0), 0), ((80, 1), 3), ((81, 0), 0), ((81, 1), 3), ((114, 0), 0), 
    ((114, 1), 1), ((115, 0), 0), ((115, 1), 1), ((144, 0), 0), ((144, 1), 3), ((145, 0), 0), ((145, 1), 3), ((152, 0), 0), ((152, 1), 4), ((152, 2), 5), ((152, 3), 6), ((152, 4), 7), 
    ((153, 0), 0), ((153, 1), 4), ((153, 2), 5), ((153, 3), 6), ((153, 4), 7), ((154, 0), 0), ((154, 1), 4), ((154, 2), 5), ((154, 3), 6), ((154, 4), 7), ((155, 0), 0), ((155, 1), 4), 
    ((155, 2), 5), ((155, 3), 6), ((155, 4), 7), ((197, 0), 0), ((197, 1), 1), ((197, 2), 2), ((197, 3), 3), ((198, 0), 0), ((198, 1), 1), ((198, 2), 2), ((198, 3), 3), ((208, 0), 0), 
    ((208, 1), 1), ((208, 2), 2), ((208, 3), 3), ((208, 4), 4), ((208, 5), 5), ((208, 6), 6), ((208, 7), 7), ((208, 8), 8), ((208, 9), 9), ((208, 10), 10), ((209, 0), 0), ((209, 1), 1), 
    ((209, 2), 2), ((209, 3), 3), ((209, 4), 4), ((209, 5), 5), ((209, 6), 6), ((209, 7), 7), ((209, 8), 8), ((209, 9), 9), ((209, 10), 10)]
def zrL : List (Nat × Value) := [(1, .nilFunc), (2, .int .i64 0), (3, .int .i64 0), (4, .bool false), (5, .int .u8 0), (6, .int .u8 0), (7, .agg #[.int .i64 0, .int .i64 0, .bool false, .int .u8 0]), 
    (8, .agg #[.int .i64 0, .int .i64 0, .bool false, .int .u8 0]), (9, .string ⟨#[]⟩), (10, .string ⟨#[]⟩), (11, .string ⟨#[]⟩), (12, .int .u64 0), 
    (13, .agg #[.string ⟨#[]⟩, .int .u64 0]), (14, .agg #[.string ⟨#[]⟩, .int .u64 0]), (15, .pointer none), (16, .pointer none), (17, .pointer none), (18, .agg #[.pointer none]), 
    (19, .agg #[.pointer none]), (20, .nilIface), (21, .int .i32 0), (22, .slice none 0 0), (23, .agg #[.slice none 0 0]), (24, .agg #[.slice none 0 0]), (25, .slice none 0 0), 
    (26, .nilFunc), (27, .nilFunc), (28, .pointer none), (29, .agg #[.nilFunc, .pointer none]), (30, .agg #[.nilFunc, .pointer none]), (31, .nilFunc), (32, .pointer none), 
    (33, .agg #[.nilFunc, .pointer none]), (34, .agg #[.nilFunc, .pointer none]), (35, .agg #[.nilFunc, .pointer none, .nilFunc, .pointer none]), 
    (36, .agg #[.nilFunc, .pointer none, .nilFunc, .pointer none]), (37, .slice none 0 0), (38, .int .i64 0), (40, .nilFunc), (41, .agg #[.string ⟨#[]⟩, .string ⟨#[]⟩]), 
    (42, .agg #[.string ⟨#[]⟩, .string ⟨#[]⟩]), (43, .agg #[.string ⟨#[]⟩, .string ⟨#[]⟩, .string ⟨#[]⟩]), (44, .agg #[.string ⟨#[]⟩, .string ⟨#[]⟩, .string ⟨#[]⟩]), (46, .nilFunc), 
    (47, .nilFunc), (48, .nilFunc), (49, .nilFunc), (50, .nilFunc), (51, .nilFunc), (52, .nilFunc), (53, .nilFunc), (55, .nilFunc), (56, .nilFunc), 
    (57, .agg #[.int .i64 0, .string ⟨#[]⟩, .string ⟨#[]⟩]), (58, .agg #[.int .i64 0, .string ⟨#[]⟩, .string ⟨#[]⟩]), (59, .nilFunc), (61, .nilFunc), (62, .slice none 0 0), 
    (63, .nilFunc), (64, .nilFunc), (65, .nilFunc), (66, .nilFunc), (68, .nilFunc), (69, .nilFunc), (70, .nilFunc), (71, .nilFunc), (72, .slice none 0 0), (73, .agg #[.slice none 0 0]), 
    (74, .agg #[.slice none 0 0]), (75, .agg #[.int .u8 0, .int .u8 0]), (76, .slice none 0 0), (77, .nilFunc), (78, .nilFunc), 
    (79, .agg #[.string ⟨#[]⟩, .string ⟨#[]⟩, .string ⟨#[]⟩]), (80, .agg #[.string ⟨#[]⟩, .string ⟨#[]⟩, .string ⟨#[]⟩, .string ⟨#[]⟩, .string ⟨#[]⟩, .string ⟨#[]⟩]), 
    (81, .agg #[.string ⟨#[]⟩, .string ⟨#[]⟩, .string ⟨#[]⟩, .string ⟨#[]⟩, .string ⟨#[]⟩, .string ⟨#[]⟩]), (82, .nilFunc), (83, .nilFunc), (84, .nilFunc), (85, .nilFunc), 
    (86, .nilFunc), (87, .nilFunc), (88, .nilFunc), (89, .nilFunc), (91, .nilFunc), (92, .nilFunc), (93, .nilFunc), (94, .nilFunc), (95, .slice none 0 0), (96, .nilFunc), 
    (98, .nilFunc), (100, .nilFunc), (101, .nilFunc), (102, .nilFunc), (103, .nilFunc), (104, .nilFunc), (105, .nilFunc), (106, .nilFunc), (107, .nilFunc), (108, .nilFunc), 
    (109, .nilFunc), (110, .nilFunc), (111, .nilFunc), (112, .slice none 0 0), (113, .nilFunc), (114, .agg #[.int .i64 0, .string ⟨#[]⟩, .string ⟨#[]⟩, .string ⟨#[]⟩]), 
    (115, .agg #[.int .i64 0, .string ⟨#[]⟩, .string ⟨#[]⟩, .string ⟨#[]⟩]), (117, .nilFunc), (118, .nilFunc), (119, .nilFunc), (120, .nilFunc), (121, .nilFunc), (122, .slice none 0 0), 
    (123, .nilFunc), (124, .nilFunc), (125, .nilFunc), (126, .nilFunc), (128, .nilFunc), (129, .nilFunc), (130, .nilFunc), (132, .nilFunc), (134, .nilFunc), (135, .nilFunc), 
    (136, .nilFunc), (137, .nilFunc), (138, .nilFunc), (139, .nilFunc), (140, .nilFunc), (141, .nilFunc), (142, .nilFunc), (143, .nilFunc), 
    (144, .agg #[.string ⟨#[]⟩, .string ⟨#[]⟩, .string ⟨#[]⟩, .int .i64 0]), (145, .agg #[.string ⟨#[]⟩, .string ⟨#[]⟩, .string ⟨#[]⟩, .int .i64 0]), (146, .nilFunc), (147, .nilFunc), 
    (148, .nilFunc), (149, .nilFunc), (150, .nilFunc), (151, .nilFunc), 
    (152, .agg #[.int .i64 0, .string ⟨#[]⟩, .string ⟨#[]⟩, .string ⟨#[]⟩, .pointer none, .pointer none, .int .i64 0, .int .i64 0]), 
    (153, .agg #[.int .i64 0, .string ⟨#[]⟩, .string ⟨#[]⟩, .string ⟨#[]⟩, .pointer none, .pointer none, .int .i64 0, .int .i64 0]), 
    (154, .agg #[.string ⟨#[]⟩, .string ⟨#[]⟩, .string ⟨#[]⟩, .int .i64 0, .pointer none, .pointer none, .int .i64 0, .int .i64 0]), 
    (155, .agg #[.string ⟨#[]⟩, .string ⟨#[]⟩, .string ⟨#[]⟩, .int .i64 0, .pointer none, .pointer none, .int .i64 0, .int .i64 0]), (156, .int .u64 0), (157, .nilFunc), 
    (158, .nilFunc), (159, .nilFunc), (160, .nilFunc), (162, .nilFunc), (163, .nilFunc), (164, .nilFunc), (166, .nilFunc), (167, .nilFunc), (168, .nilFunc), (169, .nilFunc), 
    (170, .nilFunc), (171, .nilFunc), (172, .nilFunc), (173, .nilFunc), (174, .int .i64 0), (176, .nilFunc), (177, .nilFunc), (178, .nilFunc), (179, .nilFunc), (180, .nilFunc), 
    (181, .int .u32 0), (182, .nilFunc), (183, .int .u64 0), (184, .int .u64 0), (185, .nilFunc), (186, .nilFunc), (187, .nilFunc), (188, .pointer none), (189, .nilFunc), 
    (190, .nilFunc), (191, .nilFunc), (192, .pointer none), (193, .nilFunc), (195, .nilFunc), (196, .nilFunc), (197, .agg #[.pointer none, .pointer none, .pointer none, .string ⟨#[]⟩]), 
    (198, .agg #[.pointer none, .pointer none, .pointer none, .string ⟨#[]⟩]), (199, .agg #[]), (200, .agg #[]), (201, .agg #[]), (202, .int .u8 0), (203, .int .u8 0), (204, .nilFunc), 
    (205, .pointer none), (206, .int .i32 0), (207, .int .i32 0), 
    (208, .agg #[.int .u64 0, .int .u64 0, .int .u32 0, .int .u8 0, .int .u8 0, .int .u8 0, .int .u8 0, .nilFunc, .pointer none, .int .i32 0, .int .i32 0]), 
    (209, .agg #[.int .u64 0, .int .u64 0, .int .u32 0, .int .u8 0, .int .u8 0, .int .u8 0, .int .u8 0, .nilFunc, .pointer none, .int .i32 0, .int .i32 0]), (210, .nilFunc), 
    (211, .nilFunc), (212, .nilFunc), (214, .nilFunc), (215, .nilFunc), (216, .slice none 0 0), (217, .nilFunc)]
def fnL : List (Nat × Unit) := [(3, ()), (4, ()), (5, ()), (6, ()), (7, ()), (8, ()), (9, ()), (10, ()), (11, ()), (12, ()), (13, ()), (14, ()), (15, ()), (16, ()), (17, ()), (18, ()), (19, ()), (20, ()), 
    (21, ()), (22, ()), (23, ()), (24, ()), (25, ()), (26, ()), (27, ()), (28, ()), (29, ()), (30, ()), (31, ()), (32, ()), (33, ()), (34, ()), (35, ()), (36, ()), (37, ()), (38, ()), 
    (39, ()), (40, ()), (41, ()), (42, ()), (43, ()), (44, ()), (45, ()), (46, ()), (47, ()), (48, ()), (49, ()), (50, ()), (51, ()), (52, ()), (53, ()), (54, ()), (55, ()), (56, ()), 
    (57, ()), (58, ()), (59, ()), (60, ()), (61, ()), (62, ()), (63, ()), (64, ()), (65, ()), (66, ()), (67, ()), (68, ()), (69, ()), (70, ()), (71, ()), (72, ()), (73, ()), (74, ()), 
    (75, ()), (76, ()), (77, ()), (78, ()), (79, ()), (80, ()), (81, ()), (82, ()), (83, ()), (84, ()), (85, ()), (86, ()), (87, ()), (88, ()), (89, ()), (90, ()), (91, ()), (92, ()), 
    (93, ()), (94, ()), (95, ()), (96, ()), (97, ()), (98, ()), (99, ()), (100, ()), (101, ()), (102, ()), (103, ()), (104, ()), (105, ()), (106, ()), (107, ()), (108, ()), (109, ()), 
    (110, ()), (111, ()), (113, ()), (114, ()), (115, ()), (116, ()), (117, ()), (118, ()), (119, ()), (120, ()), (121, ()), (122, ()), (123, ()), (124, ()), (125, ()), (126, ()), 
    (127, ()), (128, ()), (129, ()), (130, ()), (131, ()), (132, ()), (133, ()), (134, ()), (135, ()), (136, ()), (137, ()), (140, ()), (141, ()), (142, ()), (143, ()), (144, ()), 
    (145, ()), (146, ()), (147, ()), (148, ()), (149, ()), (155, ()), (157, ())]
theorem ldL_ok : ldL.all (fun p => ldI Try.prog p.1 == some p.2) = true := by kernel_rfl
theorem slL_ok : slL.all (fun p => slI Try.prog p.1 == some p.2) = true := by kernel_rfl
theorem stL_ok : stL.all (fun p => stI Try.prog p.1 == some p.2) = true := by kernel_rfl
theorem foL_ok : foL.all (fun p => foI Try.prog p.1 == some p.2) = true := by kernel_rfl
theorem zrL_ok : zrL.map (fun p => zrI Try.prog p.1) = zrL.map (fun p => some p.2) := by kernel_rfl
theorem fnL_ok : fnL.all (fun p => match Try.prog.funcs[p.1]? with | some fn => fn.body.isSome && fn.name != "runtime.NumGoroutine" | none => false) = true := by kernel_rfl
def L : Tabs Try.prog := ⟨ldL, slL, stL, foL, zrL, fnL, ldL_ok, slL_ok, stL_ok, foL_ok, zrL_ok, fnL_ok⟩
theorem el3 : elI Try.prog 3 = some (1, 8) := by kernel_rfl
theorem el9 : elI Try.prog 9 = some (1, 16) := by kernel_rfl
theorem el36 : elI Try.prog 36 = some (4, 32) := by kernel_rfl
theorem el38 : elI Try.prog 38 = some (1, 8) := by kernel_rfl
theorem el44 : elI Try.prog 44 = some (3, 48) := by kernel_rfl
theorem el81 : elI Try.prog 81 = some (6, 96) := by kernel_rfl
theorem el115 : elI Try.prog 115 = some (4, 56) := by kernel_rfl
theorem pl30 : PL Try.prog 30 [(0, 1), (1, 1)] [.nilFunc, .pointer none] := ⟨by kernel_rfl, .agg #[.nilFunc, .pointer none], by kernel_rfl, rfl⟩
theorem pl34 : PL Try.prog 34 [(0, 1), (1, 1)] [.nilFunc, .pointer none] := ⟨by kernel_rfl, .agg #[.nilFunc, .pointer none], by kernel_rfl, rfl⟩
theorem pl36 : PL Try.prog 36 [(0, 2), (2, 2)] [.nilFunc, .pointer none, .nilFunc, .pointer none] := ⟨by kernel_rfl, .agg #[.nilFunc, .pointer none, .nilFunc, .pointer none], by kernel_rfl, rfl⟩
theorem pl42 : PL Try.prog 42 [(0, 1), (1, 1)] [.string ⟨#[]⟩, .string ⟨#[]⟩] := ⟨by kernel_rfl, .agg #[.string ⟨#[]⟩, .string ⟨#[]⟩], by kernel_rfl, rfl⟩
theorem pl44 : PL Try.prog 44 [(0, 2), (2, 1)] [.string ⟨#[]⟩, .string ⟨#[]⟩, .string ⟨#[]⟩] := ⟨by kernel_rfl, .agg #[.string ⟨#[]⟩, .string ⟨#[]⟩, .string ⟨#[]⟩], by kernel_rfl, rfl⟩
theorem pl79 : PL Try.prog 79 [(0, 2), (2, 1)] [.string ⟨#[]⟩, .string ⟨#[]⟩, .string ⟨#[]⟩] := ⟨by kernel_rfl, .agg #[.string ⟨#[]⟩, .string ⟨#[]⟩, .string ⟨#[]⟩], by kernel_rfl, rfl⟩
theorem pl81 : PL Try.prog 81 [(0, 3), (3, 3)] [.string ⟨#[]⟩, .string ⟨#[]⟩, .string ⟨#[]⟩, .string ⟨#[]⟩, .string ⟨#[]⟩, .string ⟨#[]⟩] := ⟨by kernel_rfl, .agg #[.string ⟨#[]⟩, .string ⟨#[]⟩, .string ⟨#[]⟩, .string ⟨#[]⟩, .string ⟨#[]⟩, .string ⟨#[]⟩], by kernel_rfl, rfl⟩
theorem pl115 : PL Try.prog 115 [(0, 1), (1, 3)] [.int .i64 0, .string ⟨#[]⟩, .string ⟨#[]⟩, .string ⟨#[]⟩] := ⟨by kernel_rfl, .agg #[.int .i64 0, .string ⟨#[]⟩, .string ⟨#[]⟩, .string ⟨#[]⟩], by kernel_rfl, rfl⟩
theorem pl145 : PL Try.prog 145 [(0, 3), (3, 1)] [.string ⟨#[]⟩, .string ⟨#[]⟩, .string ⟨#[]⟩, .int .i64 0] := ⟨by kernel_rfl, .agg #[.string ⟨#[]⟩, .string ⟨#[]⟩, .string ⟨#[]⟩, .int .i64 0], by kernel_rfl, rfl⟩
theorem pl153 : PL Try.prog 153 [(0, 4), (4, 1), (5, 1), (6, 1), (7, 1)] [.int .i64 0, .string ⟨#[]⟩, .string ⟨#[]⟩, .string ⟨#[]⟩, .pointer none, .pointer none, .int .i64 0, .int .i64 0] := ⟨by kernel_rfl, .agg #[.int .i64 0, .string ⟨#[]⟩, .string ⟨#[]⟩, .string ⟨#[]⟩, .pointer none, .pointer none, .int .i64 0, .int .i64 0], by kernel_rfl, rfl⟩
theorem pl155 : PL Try.prog 155 [(0, 4), (4, 1), (5, 1), (6, 1), (7, 1)] [.string ⟨#[]⟩, .string ⟨#[]⟩, .string ⟨#[]⟩, .int .i64 0, .pointer none, .pointer none, .int .i64 0, .int .i64 0] := ⟨by kernel_rfl, .agg #[.string ⟨#[]⟩, .string ⟨#[]⟩, .string ⟨#[]⟩, .int .i64 0, .pointer none, .pointer none, .int .i64 0, .int .i64 0], by kernel_rfl, rfl⟩
theorem bt4 : Try.prog.underlying 4 = some .bool := by kernel_rfl
theorem nk27 : nkI Try.prog 27 = some 3 := by kernel_rfl
theorem nk28 : nkI Try.prog 28 = some 0 := by kernel_rfl
theorem nk31 : nkI Try.prog 31 = some 3 := by kernel_rfl
theorem nk32 : nkI Try.prog 32 = some 0 := by kernel_rfl
theorem eq42 : EqT Try.prog 42 [0, 0] := ⟨by kernel_rfl, by kernel_rfl, by kernel_rfl⟩
theorem eq44 : EqT Try.prog 44 [0, 0, 0] := ⟨by kernel_rfl, by kernel_rfl, by kernel_rfl⟩
theorem nk76 : nkI Try.prog 76 = some 1 := by kernel_rfl
theorem eq81 : EqT Try.prog 81 [0, 0, 0, 0, 0, 0] := ⟨by kernel_rfl, by kernel_rfl, by kernel_rfl⟩
theorem cv3_156 : (Try.prog.underlying 3).isSome = true ∧ ikI Try.prog 156 = some .u64 := ⟨by kernel_rfl, by kernel_rfl⟩
theorem cv3_184 : (Try.prog.underlying 3).isSome = true ∧ ikI Try.prog 184 = some .u64 := ⟨by kernel_rfl, by kernel_rfl⟩
theorem cv5_3 : (Try.prog.underlying 5).isSome = true ∧ ikI Try.prog 3 = some .i64 := ⟨by kernel_rfl, by kernel_rfl⟩
theorem cv156_3 : (Try.prog.underlying 156).isSome = true ∧ ikI Try.prog 3 = some .i64 := ⟨by kernel_rfl, by kernel_rfl⟩
theorem cv156_181 : (Try.prog.underlying 156).isSome = true ∧ ikI Try.prog 181 = some .u32 := ⟨by kernel_rfl, by kernel_rfl⟩
theorem cv181_5 : (Try.prog.underlying 181).isSome = true ∧ ikI Try.prog 5 = some .u8 := ⟨by kernel_rfl, by kernel_rfl⟩
theorem cv183_5 : (Try.prog.underlying 183).isSome = true ∧ ikI Try.prog 5 = some .u8 := ⟨by kernel_rfl, by kernel_rfl⟩
theorem ar75 : arI Try.prog 75 = some (2, 5) := by kernel_rfl
end Go.V
