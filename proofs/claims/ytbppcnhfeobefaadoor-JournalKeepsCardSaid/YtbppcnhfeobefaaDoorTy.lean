import Derived.Test.YtbppcnhfeobefaaDoorEnVx5
import Derived.Test.YtbppcnhfeobefaaDoorProg
import Derived.Test.YtbppcnhfeobefaaDoorEnVw13
import Derived.WalkKit
import Derived.LaidEql
import Derived.Stop.Asserts
import Derived.RowKitTokens
set_option linter.unusedVariables false
namespace Go.Proofs.YtbppcnhfeobefaaDoor
open Go Go.Vw
set_option maxRecDepth 100000
noncomputable def tyTab : List (Nat × TI) := [(1, { k := .func, size := 1, bytes := 8, zero := [.nilFunc] }),
 (2, { k := .int .i64, size := 1, bytes := 8, zero := [.int .i64 0] }),
 (3, { k := .int .i64, size := 1, bytes := 8, zero := [.int .i64 0] }),
 (4, { k := .bool, size := 1, bytes := 1, zero := [.bool false] }),
 (5, { k := .int .u8, size := 1, bytes := 1, zero := [.int .u8 0] }),
 (6, { k := .int .u8, size := 1, bytes := 1, zero := [.int .u8 0] }),
 (7, { k := .struct [(0, 2), (1, 3), (2, 4), (3, 6)], size := 4, bytes := 24, zero := [.int .i64 0, .int .i64 0, .bool false, .int .u8 0] }),
 (8, { k := .struct [(0, 2), (1, 3), (2, 4), (3, 6)], size := 4, bytes := 24, zero := [.int .i64 0, .int .i64 0, .bool false, .int .u8 0] }),
 (9, { k := .str, size := 1, bytes := 16, zero := [.string ⟨#[]⟩] }),
 (10, { k := .str, size := 1, bytes := 16, zero := [.string ⟨#[]⟩] }),
 (11, { k := .str, size := 1, bytes := 16, zero := [.string ⟨#[]⟩] }),
 (12, { k := .int .u64, size := 1, bytes := 8, zero := [.int .u64 0] }),
 (13, { k := .struct [(0, 9), (1, 12)], size := 2, bytes := 24, zero := [.string ⟨#[]⟩, .int .u64 0] }),
 (14, { k := .struct [(0, 9), (1, 12)], size := 2, bytes := 24, zero := [.string ⟨#[]⟩, .int .u64 0] }),
 (15, { k := .ptr 265, size := 1, bytes := 8, zero := [.pointer none] }),
 (16, { k := .ptr 268, size := 1, bytes := 8, zero := [.pointer none] }),
 (17, { k := .ptr 276, size := 1, bytes := 8, zero := [.pointer none] }),
 (18, { k := .struct [(0, 17)], size := 1, bytes := 8, zero := [.pointer none] }),
 (19, { k := .struct [(0, 17)], size := 1, bytes := 8, zero := [.pointer none] }),
 (20, { k := .iface, size := 1, bytes := 16, zero := [.nilIface] }),
 (21, { k := .int .i32, size := 1, bytes := 4, zero := [.int .i32 0] }),
 (22, { k := .slice 5, size := 1, bytes := 24, zero := [.slice none 0 0] }),
 (23, { k := .slice 4, size := 1, bytes := 24, zero := [.slice none 0 0] }),
 (24, { k := .ptr 152, size := 1, bytes := 8, zero := [.pointer none] }),
 (25, { k := .iface, size := 1, bytes := 16, zero := [.nilIface] }),
 (26, { k := .iface, size := 1, bytes := 16, zero := [.nilIface] }),
 (28, { k := .func, size := 1, bytes := 8, zero := [.nilFunc] }),
 (29, { k := .func, size := 1, bytes := 8, zero := [.nilFunc] }),
 (30, { k := .func, size := 1, bytes := 8, zero := [.nilFunc] }),
 (31, { k := .func, size := 1, bytes := 8, zero := [.nilFunc] }),
 (32, { k := .func, size := 1, bytes := 8, zero := [.nilFunc] }),
 (33, { k := .func, size := 1, bytes := 8, zero := [.nilFunc] }),
 (34, { k := .func, size := 1, bytes := 8, zero := [.nilFunc] }),
 (36, { k := .func, size := 1, bytes := 8, zero := [.nilFunc] }),
 (37, { k := .func, size := 1, bytes := 8, zero := [.nilFunc] }),
 (38, { k := .func, size := 1, bytes := 8, zero := [.nilFunc] }),
 (39, { k := .func, size := 1, bytes := 8, zero := [.nilFunc] }),
 (40, { k := .func, size := 1, bytes := 8, zero := [.nilFunc] }),
 (41, { k := .slice 50, size := 1, bytes := 24, zero := [.slice none 0 0] }),
 (42, { k := .func, size := 1, bytes := 8, zero := [.nilFunc] }),
 (43, { k := .func, size := 1, bytes := 8, zero := [.nilFunc] }),
 (44, { k := .slice 22, size := 1, bytes := 24, zero := [.slice none 0 0] }),
 (45, { k := .slice 170, size := 1, bytes := 24, zero := [.slice none 0 0] }),
 (46, { k := .struct [(0, 44), (1, 45), (2, 3), (3, 4)], size := 4, bytes := 64, zero := [.slice none 0 0, .slice none 0 0, .int .i64 0, .bool false] }),
 (47, { k := .struct [(0, 44), (1, 45), (2, 3), (3, 4)], size := 4, bytes := 64, zero := [.slice none 0 0, .slice none 0 0, .int .i64 0, .bool false] }),
 (48, { k := .func, size := 1, bytes := 8, zero := [.nilFunc] }),
 (49, { k := .struct [(0, 3), (1, 3), (2, 22), (3, 23)], size := 4, bytes := 64, zero := [.int .i64 0, .int .i64 0, .slice none 0 0, .slice none 0 0] }),
 (50, { k := .struct [(0, 3), (1, 3), (2, 22), (3, 23)], size := 4, bytes := 64, zero := [.int .i64 0, .int .i64 0, .slice none 0 0, .slice none 0 0] }),
 (51, { k := .int .u64, size := 1, bytes := 8, zero := [.int .u64 0] }),
 (53, { k := .func, size := 1, bytes := 8, zero := [.nilFunc] }),
 (54, { k := .func, size := 1, bytes := 8, zero := [.nilFunc] }),
 (55, { k := .func, size := 1, bytes := 8, zero := [.nilFunc] }),
 (57, { k := .func, size := 1, bytes := 8, zero := [.nilFunc] }),
 (58, { k := .func, size := 1, bytes := 8, zero := [.nilFunc] }),
 (59, { k := .func, size := 1, bytes := 8, zero := [.nilFunc] }),
 (60, { k := .slice 82, size := 1, bytes := 24, zero := [.slice none 0 0] }),
 (61, { k := .int .u32, size := 1, bytes := 4, zero := [.int .u32 0] }),
 (62, { k := .struct [(0, 60), (1, 61), (2, 3)], size := 3, bytes := 40, zero := [.slice none 0 0, .int .u32 0, .int .i64 0] }),
 (63, { k := .struct [(0, 60), (1, 61), (2, 3)], size := 3, bytes := 40, zero := [.slice none 0 0, .int .u32 0, .int .i64 0] }),
 (64, { k := .int .u64, size := 1, bytes := 8, zero := [.int .u64 0] }),
 (65, { k := .struct [(0, 22), (1, 3), (2, 61), (3, 64)], size := 4, bytes := 48, zero := [.slice none 0 0, .int .i64 0, .int .u32 0, .int .u64 0] }),
 (66, { k := .struct [(0, 22), (1, 3), (2, 61), (3, 64)], size := 4, bytes := 48, zero := [.slice none 0 0, .int .i64 0, .int .u32 0, .int .u64 0] }),
 (67, { k := .slice 76, size := 1, bytes := 24, zero := [.slice none 0 0] }),
 (68, { k := .struct [(0, 67), (1, 61), (2, 3)], size := 3, bytes := 40, zero := [.slice none 0 0, .int .u32 0, .int .i64 0] }),
 (69, { k := .struct [(0, 67), (1, 61), (2, 3)], size := 3, bytes := 40, zero := [.slice none 0 0, .int .u32 0, .int .i64 0] }),
 (70, { k := .func, size := 1, bytes := 8, zero := [.nilFunc] }),
 (71, { k := .func, size := 1, bytes := 8, zero := [.nilFunc] }),
 (72, { k := .func, size := 1, bytes := 8, zero := [.nilFunc] }),
 (74, { k := .func, size := 1, bytes := 8, zero := [.nilFunc] }),
 (75, { k := .struct [(0, 61), (1, 22), (2, 64), (3, 3)], size := 4, bytes := 48, zero := [.int .u32 0, .slice none 0 0, .int .u64 0, .int .i64 0] }),
 (76, { k := .struct [(0, 61), (1, 22), (2, 64), (3, 3)], size := 4, bytes := 48, zero := [.int .u32 0, .slice none 0 0, .int .u64 0, .int .i64 0] }),
 (78, { k := .func, size := 1, bytes := 8, zero := [.nilFunc] }),
 (79, { k := .func, size := 1, bytes := 8, zero := [.nilFunc] }),
 (81, { k := .func, size := 1, bytes := 8, zero := [.nilFunc] }),
 (82, { k := .struct [(0, 61), (1, 22), (2, 64), (3, 3)], size := 4, bytes := 48, zero := [.int .u32 0, .slice none 0 0, .int .u64 0, .int .i64 0] }),
 (84, { k := .func, size := 1, bytes := 8, zero := [.nilFunc] }),
 (85, { k := .func, size := 1, bytes := 8, zero := [.nilFunc] }),
 (86, { k := .func, size := 1, bytes := 8, zero := [.nilFunc] }),
 (87, { k := .func, size := 1, bytes := 8, zero := [.nilFunc] }),
 (88, { k := .func, size := 1, bytes := 8, zero := [.nilFunc] }),
 (89, { k := .func, size := 1, bytes := 8, zero := [.nilFunc] }),
 (90, { k := .func, size := 1, bytes := 8, zero := [.nilFunc] }),
 (91, { k := .slice 66, size := 1, bytes := 24, zero := [.slice none 0 0] }),
 (92, { k := .slice 9, size := 1, bytes := 24, zero := [.slice none 0 0] }),
 (93, { k := .array 64 3, size := 64, bytes := 512, zero := List.replicate 64 (.int .i64 0) }),
 (94, { k := .func, size := 1, bytes := 8, zero := [.nilFunc] }),
 (95, { k := .func, size := 1, bytes := 8, zero := [.nilFunc] }),
 (96, { k := .func, size := 1, bytes := 8, zero := [.nilFunc] }),
 (97, { k := .func, size := 1, bytes := 8, zero := [.nilFunc] }),
 (98, { k := .func, size := 1, bytes := 8, zero := [.nilFunc] }),
 (99, { k := .func, size := 1, bytes := 8, zero := [.nilFunc] }),
 (100, { k := .slice 104, size := 1, bytes := 24, zero := [.slice none 0 0] }),
 (101, { k := .ptr 185, size := 1, bytes := 8, zero := [.pointer none] }),
 (103, { k := .func, size := 1, bytes := 8, zero := [.nilFunc] }),
 (104, { k := .struct [(0, 3), (1, 3), (2, 22), (3, 23)], size := 4, bytes := 64, zero := [.int .i64 0, .int .i64 0, .slice none 0 0, .slice none 0 0] }),
 (105, { k := .func, size := 1, bytes := 8, zero := [.nilFunc] }),
 (107, { k := .func, size := 1, bytes := 8, zero := [.nilFunc] }),
 (108, { k := .slice 112, size := 1, bytes := 24, zero := [.slice none 0 0] }),
 (110, { k := .func, size := 1, bytes := 8, zero := [.nilFunc] }),
 (111, { k := .struct [(0, 61), (1, 22)], size := 2, bytes := 32, zero := [.int .u32 0, .slice none 0 0] }),
 (112, { k := .struct [(0, 61), (1, 22)], size := 2, bytes := 32, zero := [.int .u32 0, .slice none 0 0] }),
 (113, { k := .func, size := 1, bytes := 8, zero := [.nilFunc] }),
 (114, { k := .array 2 3, size := 2, bytes := 16, zero := [.int .i64 0, .int .i64 0] }),
 (115, { k := .func, size := 1, bytes := 8, zero := [.nilFunc] }),
 (117, { k := .func, size := 1, bytes := 8, zero := [.nilFunc] }),
 (118, { k := .struct [(0, 3), (1, 3), (2, 61)], size := 3, bytes := 24, zero := [.int .i64 0, .int .i64 0, .int .u32 0] }),
 (119, { k := .struct [(0, 3), (1, 3), (2, 61)], size := 3, bytes := 24, zero := [.int .i64 0, .int .i64 0, .int .u32 0] }),
 (120, { k := .slice 193, size := 1, bytes := 24, zero := [.slice none 0 0] }),
 (122, { k := .func, size := 1, bytes := 8, zero := [.nilFunc] }),
 (123, { k := .func, size := 1, bytes := 8, zero := [.nilFunc] }),
 (125, { k := .func, size := 1, bytes := 8, zero := [.nilFunc] }),
 (126, { k := .func, size := 1, bytes := 8, zero := [.nilFunc] }),
 (128, { k := .func, size := 1, bytes := 8, zero := [.nilFunc] }),
 (130, { k := .func, size := 1, bytes := 8, zero := [.nilFunc] }),
 (131, { k := .func, size := 1, bytes := 8, zero := [.nilFunc] }),
 (132, { k := .struct [(0, 5), (1, 61), (2, 22)], size := 3, bytes := 32, zero := [.int .u8 0, .int .u32 0, .slice none 0 0] }),
 (133, { k := .struct [(0, 5), (1, 61), (2, 22)], size := 3, bytes := 32, zero := [.int .u8 0, .int .u32 0, .slice none 0 0] }),
 (134, { k := .struct [(0, 5), (1, 61), (2, 22)], size := 3, bytes := 32, zero := [.int .u8 0, .int .u32 0, .slice none 0 0] }),
 (135, { k := .func, size := 1, bytes := 8, zero := [.nilFunc] }),
 (136, { k := .func, size := 1, bytes := 8, zero := [.nilFunc] }),
 (138, { k := .func, size := 1, bytes := 8, zero := [.nilFunc] }),
 (140, { k := .func, size := 1, bytes := 8, zero := [.nilFunc] }),
 (142, { k := .func, size := 1, bytes := 8, zero := [.nilFunc] }),
 (143, { k := .func, size := 1, bytes := 8, zero := [.nilFunc] }),
 (144, { k := .func, size := 1, bytes := 8, zero := [.nilFunc] }),
 (145, { k := .func, size := 1, bytes := 8, zero := [.nilFunc] }),
 (146, { k := .func, size := 1, bytes := 8, zero := [.nilFunc] }),
 (147, { k := .func, size := 1, bytes := 8, zero := [.nilFunc] }),
 (148, { k := .func, size := 1, bytes := 8, zero := [.nilFunc] }),
 (149, { k := .int .i64, size := 1, bytes := 8, zero := [.int .i64 0] }),
 (150, { k := .slice 155, size := 1, bytes := 24, zero := [.slice none 0 0] }),
 (151, { k := .struct [(0, 44), (1, 150), (2, 3), (3, 4)], size := 4, bytes := 64, zero := [.slice none 0 0, .slice none 0 0, .int .i64 0, .bool false] }),
 (152, { k := .struct [(0, 44), (1, 150), (2, 3), (3, 4)], size := 4, bytes := 64, zero := [.slice none 0 0, .slice none 0 0, .int .i64 0, .bool false] }),
 (153, { k := .func, size := 1, bytes := 8, zero := [.nilFunc] }),
 (154, { k := .struct [(0, 3), (1, 22)], size := 2, bytes := 32, zero := [.int .i64 0, .slice none 0 0] }),
 (155, { k := .struct [(0, 3), (1, 22)], size := 2, bytes := 32, zero := [.int .i64 0, .slice none 0 0] }),
 (156, { k := .func, size := 1, bytes := 8, zero := [.nilFunc] }),
 (157, { k := .func, size := 1, bytes := 8, zero := [.nilFunc] }),
 (158, { k := .func, size := 1, bytes := 8, zero := [.nilFunc] }),
 (159, { k := .func, size := 1, bytes := 8, zero := [.nilFunc] }),
 (160, { k := .func, size := 1, bytes := 8, zero := [.nilFunc] }),
 (161, { k := .ptr 149, size := 1, bytes := 8, zero := [.pointer none] }),
 (162, { k := .func, size := 1, bytes := 8, zero := [.nilFunc] }),
 (163, { k := .func, size := 1, bytes := 8, zero := [.nilFunc] }),
 (164, { k := .func, size := 1, bytes := 8, zero := [.nilFunc] }),
 (165, { k := .func, size := 1, bytes := 8, zero := [.nilFunc] }),
 (166, { k := .func, size := 1, bytes := 8, zero := [.nilFunc] }),
 (167, { k := .func, size := 1, bytes := 8, zero := [.nilFunc] }),
 (168, { k := .func, size := 1, bytes := 8, zero := [.nilFunc] }),
 (169, { k := .struct [(0, 3), (1, 22)], size := 2, bytes := 32, zero := [.int .i64 0, .slice none 0 0] }),
 (170, { k := .struct [(0, 3), (1, 22)], size := 2, bytes := 32, zero := [.int .i64 0, .slice none 0 0] }),
 (171, { k := .func, size := 1, bytes := 8, zero := [.nilFunc] }),
 (172, { k := .func, size := 1, bytes := 8, zero := [.nilFunc] }),
 (174, { k := .func, size := 1, bytes := 8, zero := [.nilFunc] }),
 (176, { k := .func, size := 1, bytes := 8, zero := [.nilFunc] }),
 (177, { k := .func, size := 1, bytes := 8, zero := [.nilFunc] }),
 (178, { k := .func, size := 1, bytes := 8, zero := [.nilFunc] }),
 (179, { k := .ptr 181, size := 1, bytes := 8, zero := [.pointer none] }),
 (180, { k := .struct [(0, 22), (1, 4)], size := 2, bytes := 32, zero := [.slice none 0 0, .bool false] }),
 (181, { k := .struct [(0, 22), (1, 4)], size := 2, bytes := 32, zero := [.slice none 0 0, .bool false] }),
 (182, { k := .func, size := 1, bytes := 8, zero := [.nilFunc] }),
 (183, { k := .func, size := 1, bytes := 8, zero := [.nilFunc] }),
 (184, { k := .struct [(0, 24), (1, 3), (2, 3), (3, 61)], size := 4, bytes := 32, zero := [.pointer none, .int .i64 0, .int .i64 0, .int .u32 0] }),
 (185, { k := .struct [(0, 24), (1, 3), (2, 3), (3, 61)], size := 4, bytes := 32, zero := [.pointer none, .int .i64 0, .int .i64 0, .int .u32 0] }),
 (186, { k := .func, size := 1, bytes := 8, zero := [.nilFunc] }),
 (188, { k := .func, size := 1, bytes := 8, zero := [.nilFunc] }),
 (189, { k := .func, size := 1, bytes := 8, zero := [.nilFunc] }),
 (190, { k := .func, size := 1, bytes := 8, zero := [.nilFunc] }),
 (192, { k := .func, size := 1, bytes := 8, zero := [.nilFunc] }),
 (193, { k := .struct [(0, 61), (1, 22)], size := 2, bytes := 32, zero := [.int .u32 0, .slice none 0 0] }),
 (195, { k := .func, size := 1, bytes := 8, zero := [.nilFunc] }),
 (196, { k := .func, size := 1, bytes := 8, zero := [.nilFunc] }),
 (198, { k := .func, size := 1, bytes := 8, zero := [.nilFunc] }),
 (199, { k := .func, size := 1, bytes := 8, zero := [.nilFunc] }),
 (200, { k := .func, size := 1, bytes := 8, zero := [.nilFunc] }),
 (201, { k := .func, size := 1, bytes := 8, zero := [.nilFunc] }),
 (202, { k := .func, size := 1, bytes := 8, zero := [.nilFunc] }),
 (203, { k := .func, size := 1, bytes := 8, zero := [.nilFunc] }),
 (204, { k := .func, size := 1, bytes := 8, zero := [.nilFunc] }),
 (205, { k := .func, size := 1, bytes := 8, zero := [.nilFunc] }),
 (206, { k := .func, size := 1, bytes := 8, zero := [.nilFunc] }),
 (208, { k := .func, size := 1, bytes := 8, zero := [.nilFunc] }),
 (209, { k := .func, size := 1, bytes := 8, zero := [.nilFunc] }),
 (211, { k := .int .u64, size := 1, bytes := 8, zero := [.int .u64 0] }),
 (214, { k := .func, size := 1, bytes := 8, zero := [.nilFunc] }),
 (215, { k := .iface, size := 1, bytes := 16, zero := [.nilIface] }),
 (216, { k := .iface, size := 1, bytes := 16, zero := [.nilIface] }),
 (217, { k := .func, size := 1, bytes := 8, zero := [.nilFunc] }),
 (218, { k := .int .u8, size := 1, bytes := 1, zero := [.int .u8 0] }),
 (219, { k := .func, size := 1, bytes := 8, zero := [.nilFunc] }),
 (220, { k := .func, size := 1, bytes := 8, zero := [.nilFunc] }),
 (221, { k := .func, size := 1, bytes := 8, zero := [.nilFunc] }),
 (222, { k := .func, size := 1, bytes := 8, zero := [.nilFunc] }),
 (223, { k := .func, size := 1, bytes := 8, zero := [.nilFunc] }),
 (224, { k := .func, size := 1, bytes := 8, zero := [.nilFunc] }),
 (225, { k := .func, size := 1, bytes := 8, zero := [.nilFunc] }),
 (227, { k := .func, size := 1, bytes := 8, zero := [.nilFunc] }),
 (228, { k := .func, size := 1, bytes := 8, zero := [.nilFunc] }),
 (229, { k := .array 256 4, size := 256, bytes := 256, zero := List.replicate 256 (.bool false) }),
 (230, { k := .array 256 4, size := 256, bytes := 256, zero := List.replicate 256 (.bool false) }),
 (232, { k := .func, size := 1, bytes := 8, zero := [.nilFunc] }),
 (233, { k := .func, size := 1, bytes := 8, zero := [.nilFunc] }),
 (234, { k := .ptr 230, size := 1, bytes := 8, zero := [.pointer none] }),
 (235, { k := .func, size := 1, bytes := 8, zero := [.nilFunc] }),
 (236, { k := .func, size := 1, bytes := 8, zero := [.nilFunc] }),
 (237, { k := .struct [(0, 17)], size := 1, bytes := 8, zero := [.pointer none] }),
 (238, { k := .struct [(0, 17)], size := 1, bytes := 8, zero := [.pointer none] }),
 (239, { k := .ptr 280, size := 1, bytes := 8, zero := [.pointer none] }),
 (240, { k := .func, size := 1, bytes := 8, zero := [.nilFunc] }),
 (241, { k := .func, size := 1, bytes := 8, zero := [.nilFunc] }),
 (242, { k := .func, size := 1, bytes := 8, zero := [.nilFunc] }),
 (243, { k := .iface, size := 1, bytes := 16, zero := [.nilIface] }),
 (245, { k := .func, size := 1, bytes := 8, zero := [.nilFunc] }),
 (246, { k := .iface, size := 1, bytes := 16, zero := [.nilIface] }),
 (247, { k := .iface, size := 1, bytes := 16, zero := [.nilIface] }),
 (248, { k := .slice 26, size := 1, bytes := 24, zero := [.slice none 0 0] }),
 (249, { k := .func, size := 1, bytes := 8, zero := [.nilFunc] }),
 (250, { k := .func, size := 1, bytes := 8, zero := [.nilFunc] }),
 (251, { k := .func, size := 1, bytes := 8, zero := [.nilFunc] }),
 (252, { k := .func, size := 1, bytes := 8, zero := [.nilFunc] }),
 (254, { k := .func, size := 1, bytes := 8, zero := [.nilFunc] }),
 (255, { k := .func, size := 1, bytes := 8, zero := [.nilFunc] }),
 (256, { k := .func, size := 1, bytes := 8, zero := [.nilFunc] }),
 (257, { k := .array 256 5, size := 256, bytes := 256, zero := List.replicate 256 (.int .u8 0) }),
 (258, { k := .struct [(0, 5), (1, 5)], size := 2, bytes := 2, zero := [.int .u8 0, .int .u8 0] }),
 (259, { k := .struct [(0, 5), (1, 5)], size := 2, bytes := 2, zero := [.int .u8 0, .int .u8 0] }),
 (260, { k := .array 16 259, size := 32, bytes := 32, zero := List.replicate 32 (.int .u8 0) }),
 (261, { k := .func, size := 1, bytes := 8, zero := [.nilFunc] }),
 (262, { k := .func, size := 1, bytes := 8, zero := [.nilFunc] }),
 (263, { k := .func, size := 1, bytes := 8, zero := [.nilFunc] }),
 (264, { k := .struct [(0, 17), (1, 17), (2, 17), (3, 9)], size := 4, bytes := 40, zero := [.pointer none, .pointer none, .pointer none, .string ⟨#[]⟩] }),
 (265, { k := .struct [(0, 17), (1, 17), (2, 17), (3, 9)], size := 4, bytes := 40, zero := [.pointer none, .pointer none, .pointer none, .string ⟨#[]⟩] }),
 (266, { k := .array 0 16, size := 0, bytes := 0, zero := [] }),
 (267, { k := .struct [(0, 266)], size := 0, bytes := 0, zero := [] }),
 (268, { k := .struct [(0, 266)], size := 0, bytes := 0, zero := [] }),
 (269, { k := .func, size := 1, bytes := 8, zero := [.nilFunc] }),
 (270, { k := .int .u8, size := 1, bytes := 1, zero := [.int .u8 0] }),
 (271, { k := .func, size := 1, bytes := 8, zero := [.nilFunc] }),
 (272, { k := .ptr 5, size := 1, bytes := 8, zero := [.pointer none] }),
 (273, { k := .int .i32, size := 1, bytes := 4, zero := [.int .i32 0] }),
 (274, { k := .int .i32, size := 1, bytes := 4, zero := [.int .i32 0] }),
 (275, { k := .struct [(0, 12), (1, 12), (2, 61), (3, 270), (4, 5), (5, 5), (6, 218), (7, 271), (8, 272), (9, 273), (10, 274)], size := 11, bytes := 48, zero := [.int .u64 0, .int .u64 0, .int .u32 0, .int .u8 0, .int .u8 0, .int .u8 0, .int .u8 0, .nilFunc, .pointer none, .int .i32 0, .int .i32 0] }),
 (276, { k := .struct [(0, 12), (1, 12), (2, 61), (3, 270), (4, 5), (5, 5), (6, 218), (7, 271), (8, 272), (9, 273), (10, 274)], size := 11, bytes := 48, zero := [.int .u64 0, .int .u64 0, .int .u32 0, .int .u8 0, .int .u8 0, .int .u8 0, .int .u8 0, .nilFunc, .pointer none, .int .i32 0, .int .i32 0] }),
 (277, { k := .func, size := 1, bytes := 8, zero := [.nilFunc] }),
 (278, { k := .func, size := 1, bytes := 8, zero := [.nilFunc] }),
 (279, { k := .struct [(0, 9), (1, 218)], size := 2, bytes := 24, zero := [.string ⟨#[]⟩, .int .u8 0] }),
 (280, { k := .struct [(0, 9), (1, 218)], size := 2, bytes := 24, zero := [.string ⟨#[]⟩, .int .u8 0] }),
 (281, { k := .ptr 285, size := 1, bytes := 8, zero := [.pointer none] }),
 (282, { k := .func, size := 1, bytes := 8, zero := [.nilFunc] }),
 (283, { k := .int .u16, size := 1, bytes := 2, zero := [.int .u16 0] }),
 (284, { k := .struct [(0, 273), (1, 283), (2, 283), (3, 61), (4, 61)], size := 5, bytes := 16, zero := [.int .i32 0, .int .u16 0, .int .u16 0, .int .u32 0, .int .u32 0] }),
 (285, { k := .struct [(0, 273), (1, 283), (2, 283), (3, 61), (4, 61)], size := 5, bytes := 16, zero := [.int .i32 0, .int .u16 0, .int .u16 0, .int .u32 0, .int .u32 0] }),
 (286, { k := .slice 289, size := 1, bytes := 24, zero := [.slice none 0 0] }),
 (287, { k := .int .i32, size := 1, bytes := 4, zero := [.int .i32 0] }),
 (288, { k := .struct [(0, 273), (1, 274), (2, 287), (3, 287)], size := 4, bytes := 16, zero := List.replicate 4 (.int .i32 0) }),
 (289, { k := .struct [(0, 273), (1, 274), (2, 287), (3, 287)], size := 4, bytes := 16, zero := List.replicate 4 (.int .i32 0) }),
 (290, { k := .ptr 26, size := 1, bytes := 8, zero := [.pointer none] })]
theorem tyTab_chk : (tyTab.all fun p => tchk Go.Proofs.Tryd.prog p.1 p.2) = true := by kernel_rfl
theorem tyTab_no : (tyTab.all fun p => !p.2.k.isNo) = true := by kernel_rfl
theorem tyTab_row : (tyTab.all fun p => rowIn tyTab p.2.k) = true := by kernel_rfl
noncomputable def E : Env := Env.mk' Go.Proofs.Tryd.prog tyTab tyTab_no (List.all_eq_true.1 tyTab_chk) tyTab_row
theorem ty : E.ti 1 = { k := .func, size := 1, bytes := 8, zero := [.nilFunc] } ∧ E.ti 2 = { k := .int .i64, size := 1, bytes := 8, zero := [.int .i64 0] } ∧ E.ti 3 = { k := .int .i64, size := 1, bytes := 8, zero := [.int .i64 0] } ∧ E.ti 4 = { k := .bool, size := 1, bytes := 1, zero := [.bool false] } ∧ E.ti 5 = { k := .int .u8, size := 1, bytes := 1, zero := [.int .u8 0] } ∧ E.ti 6 = { k := .int .u8, size := 1, bytes := 1, zero := [.int .u8 0] } ∧ E.ti 7 = { k := .struct [(0, 2), (1, 3), (2, 4), (3, 6)], size := 4, bytes := 24, zero := [.int .i64 0, .int .i64 0, .bool false, .int .u8 0] } ∧ E.ti 8 = { k := .struct [(0, 2), (1, 3), (2, 4), (3, 6)], size := 4, bytes := 24, zero := [.int .i64 0, .int .i64 0, .bool false, .int .u8 0] } ∧ E.ti 9 = { k := .str, size := 1, bytes := 16, zero := [.string ⟨#[]⟩] } ∧ E.ti 10 = { k := .str, size := 1, bytes := 16, zero := [.string ⟨#[]⟩] } ∧ E.ti 11 = { k := .str, size := 1, bytes := 16, zero := [.string ⟨#[]⟩] } ∧ E.ti 12 = { k := .int .u64, size := 1, bytes := 8, zero := [.int .u64 0] } ∧ E.ti 13 = { k := .struct [(0, 9), (1, 12)], size := 2, bytes := 24, zero := [.string ⟨#[]⟩, .int .u64 0] } ∧ E.ti 14 = { k := .struct [(0, 9), (1, 12)], size := 2, bytes := 24, zero := [.string ⟨#[]⟩, .int .u64 0] } ∧ E.ti 15 = { k := .ptr 265, size := 1, bytes := 8, zero := [.pointer none] } ∧ E.ti 16 = { k := .ptr 268, size := 1, bytes := 8, zero := [.pointer none] } ∧ E.ti 17 = { k := .ptr 276, size := 1, bytes := 8, zero := [.pointer none] } ∧ E.ti 18 = { k := .struct [(0, 17)], size := 1, bytes := 8, zero := [.pointer none] } ∧ E.ti 19 = { k := .struct [(0, 17)], size := 1, bytes := 8, zero := [.pointer none] } ∧ E.ti 20 = { k := .iface, size := 1, bytes := 16, zero := [.nilIface] } ∧ E.ti 21 = { k := .int .i32, size := 1, bytes := 4, zero := [.int .i32 0] } ∧ E.ti 22 = { k := .slice 5, size := 1, bytes := 24, zero := [.slice none 0 0] } ∧ E.ti 23 = { k := .slice 4, size := 1, bytes := 24, zero := [.slice none 0 0] } ∧ E.ti 24 = { k := .ptr 152, size := 1, bytes := 8, zero := [.pointer none] } ∧ E.ti 25 = { k := .iface, size := 1, bytes := 16, zero := [.nilIface] } ∧ E.ti 26 = { k := .iface, size := 1, bytes := 16, zero := [.nilIface] } ∧ E.ti 28 = { k := .func, size := 1, bytes := 8, zero := [.nilFunc] } ∧ E.ti 29 = { k := .func, size := 1, bytes := 8, zero := [.nilFunc] } ∧ E.ti 30 = { k := .func, size := 1, bytes := 8, zero := [.nilFunc] } ∧ E.ti 31 = { k := .func, size := 1, bytes := 8, zero := [.nilFunc] } ∧ E.ti 32 = { k := .func, size := 1, bytes := 8, zero := [.nilFunc] } ∧ E.ti 33 = { k := .func, size := 1, bytes := 8, zero := [.nilFunc] } ∧ E.ti 34 = { k := .func, size := 1, bytes := 8, zero := [.nilFunc] } ∧ E.ti 36 = { k := .func, size := 1, bytes := 8, zero := [.nilFunc] } ∧ E.ti 37 = { k := .func, size := 1, bytes := 8, zero := [.nilFunc] } ∧ E.ti 38 = { k := .func, size := 1, bytes := 8, zero := [.nilFunc] } ∧ E.ti 39 = { k := .func, size := 1, bytes := 8, zero := [.nilFunc] } ∧ E.ti 40 = { k := .func, size := 1, bytes := 8, zero := [.nilFunc] } ∧ E.ti 41 = { k := .slice 50, size := 1, bytes := 24, zero := [.slice none 0 0] } ∧ E.ti 42 = { k := .func, size := 1, bytes := 8, zero := [.nilFunc] } ∧ E.ti 43 = { k := .func, size := 1, bytes := 8, zero := [.nilFunc] } ∧ E.ti 44 = { k := .slice 22, size := 1, bytes := 24, zero := [.slice none 0 0] } ∧ E.ti 45 = { k := .slice 170, size := 1, bytes := 24, zero := [.slice none 0 0] } ∧ E.ti 46 = { k := .struct [(0, 44), (1, 45), (2, 3), (3, 4)], size := 4, bytes := 64, zero := [.slice none 0 0, .slice none 0 0, .int .i64 0, .bool false] } ∧ E.ti 47 = { k := .struct [(0, 44), (1, 45), (2, 3), (3, 4)], size := 4, bytes := 64, zero := [.slice none 0 0, .slice none 0 0, .int .i64 0, .bool false] } ∧ E.ti 48 = { k := .func, size := 1, bytes := 8, zero := [.nilFunc] } ∧ E.ti 49 = { k := .struct [(0, 3), (1, 3), (2, 22), (3, 23)], size := 4, bytes := 64, zero := [.int .i64 0, .int .i64 0, .slice none 0 0, .slice none 0 0] } ∧ E.ti 50 = { k := .struct [(0, 3), (1, 3), (2, 22), (3, 23)], size := 4, bytes := 64, zero := [.int .i64 0, .int .i64 0, .slice none 0 0, .slice none 0 0] } ∧ E.ti 51 = { k := .int .u64, size := 1, bytes := 8, zero := [.int .u64 0] } ∧ E.ti 53 = { k := .func, size := 1, bytes := 8, zero := [.nilFunc] } ∧ E.ti 54 = { k := .func, size := 1, bytes := 8, zero := [.nilFunc] } ∧ E.ti 55 = { k := .func, size := 1, bytes := 8, zero := [.nilFunc] } ∧ E.ti 57 = { k := .func, size := 1, bytes := 8, zero := [.nilFunc] } ∧ E.ti 58 = { k := .func, size := 1, bytes := 8, zero := [.nilFunc] } ∧ E.ti 59 = { k := .func, size := 1, bytes := 8, zero := [.nilFunc] } ∧ E.ti 60 = { k := .slice 82, size := 1, bytes := 24, zero := [.slice none 0 0] } ∧ E.ti 61 = { k := .int .u32, size := 1, bytes := 4, zero := [.int .u32 0] } ∧ E.ti 62 = { k := .struct [(0, 60), (1, 61), (2, 3)], size := 3, bytes := 40, zero := [.slice none 0 0, .int .u32 0, .int .i64 0] } ∧ E.ti 63 = { k := .struct [(0, 60), (1, 61), (2, 3)], size := 3, bytes := 40, zero := [.slice none 0 0, .int .u32 0, .int .i64 0] } ∧ E.ti 64 = { k := .int .u64, size := 1, bytes := 8, zero := [.int .u64 0] } ∧ E.ti 65 = { k := .struct [(0, 22), (1, 3), (2, 61), (3, 64)], size := 4, bytes := 48, zero := [.slice none 0 0, .int .i64 0, .int .u32 0, .int .u64 0] } ∧ E.ti 66 = { k := .struct [(0, 22), (1, 3), (2, 61), (3, 64)], size := 4, bytes := 48, zero := [.slice none 0 0, .int .i64 0, .int .u32 0, .int .u64 0] } ∧ E.ti 67 = { k := .slice 76, size := 1, bytes := 24, zero := [.slice none 0 0] } ∧ E.ti 68 = { k := .struct [(0, 67), (1, 61), (2, 3)], size := 3, bytes := 40, zero := [.slice none 0 0, .int .u32 0, .int .i64 0] } ∧ E.ti 69 = { k := .struct [(0, 67), (1, 61), (2, 3)], size := 3, bytes := 40, zero := [.slice none 0 0, .int .u32 0, .int .i64 0] } ∧ E.ti 70 = { k := .func, size := 1, bytes := 8, zero := [.nilFunc] } ∧ E.ti 71 = { k := .func, size := 1, bytes := 8, zero := [.nilFunc] } ∧ E.ti 72 = { k := .func, size := 1, bytes := 8, zero := [.nilFunc] } ∧ E.ti 74 = { k := .func, size := 1, bytes := 8, zero := [.nilFunc] } ∧ E.ti 75 = { k := .struct [(0, 61), (1, 22), (2, 64), (3, 3)], size := 4, bytes := 48, zero := [.int .u32 0, .slice none 0 0, .int .u64 0, .int .i64 0] } ∧ E.ti 76 = { k := .struct [(0, 61), (1, 22), (2, 64), (3, 3)], size := 4, bytes := 48, zero := [.int .u32 0, .slice none 0 0, .int .u64 0, .int .i64 0] } ∧ E.ti 78 = { k := .func, size := 1, bytes := 8, zero := [.nilFunc] } ∧ E.ti 79 = { k := .func, size := 1, bytes := 8, zero := [.nilFunc] } ∧ E.ti 81 = { k := .func, size := 1, bytes := 8, zero := [.nilFunc] } ∧ E.ti 82 = { k := .struct [(0, 61), (1, 22), (2, 64), (3, 3)], size := 4, bytes := 48, zero := [.int .u32 0, .slice none 0 0, .int .u64 0, .int .i64 0] } ∧ E.ti 84 = { k := .func, size := 1, bytes := 8, zero := [.nilFunc] } ∧ E.ti 85 = { k := .func, size := 1, bytes := 8, zero := [.nilFunc] } ∧ E.ti 86 = { k := .func, size := 1, bytes := 8, zero := [.nilFunc] } ∧ E.ti 87 = { k := .func, size := 1, bytes := 8, zero := [.nilFunc] } ∧ E.ti 88 = { k := .func, size := 1, bytes := 8, zero := [.nilFunc] } ∧ E.ti 89 = { k := .func, size := 1, bytes := 8, zero := [.nilFunc] } ∧ E.ti 90 = { k := .func, size := 1, bytes := 8, zero := [.nilFunc] } ∧ E.ti 91 = { k := .slice 66, size := 1, bytes := 24, zero := [.slice none 0 0] } ∧ E.ti 92 = { k := .slice 9, size := 1, bytes := 24, zero := [.slice none 0 0] } ∧ E.ti 93 = { k := .array 64 3, size := 64, bytes := 512, zero := List.replicate 64 (.int .i64 0) } ∧ E.ti 94 = { k := .func, size := 1, bytes := 8, zero := [.nilFunc] } ∧ E.ti 95 = { k := .func, size := 1, bytes := 8, zero := [.nilFunc] } ∧ E.ti 96 = { k := .func, size := 1, bytes := 8, zero := [.nilFunc] } ∧ E.ti 97 = { k := .func, size := 1, bytes := 8, zero := [.nilFunc] } ∧ E.ti 98 = { k := .func, size := 1, bytes := 8, zero := [.nilFunc] } ∧ E.ti 99 = { k := .func, size := 1, bytes := 8, zero := [.nilFunc] } ∧ E.ti 100 = { k := .slice 104, size := 1, bytes := 24, zero := [.slice none 0 0] } ∧ E.ti 101 = { k := .ptr 185, size := 1, bytes := 8, zero := [.pointer none] } ∧ E.ti 103 = { k := .func, size := 1, bytes := 8, zero := [.nilFunc] } ∧ E.ti 104 = { k := .struct [(0, 3), (1, 3), (2, 22), (3, 23)], size := 4, bytes := 64, zero := [.int .i64 0, .int .i64 0, .slice none 0 0, .slice none 0 0] } ∧ E.ti 105 = { k := .func, size := 1, bytes := 8, zero := [.nilFunc] } ∧ E.ti 107 = { k := .func, size := 1, bytes := 8, zero := [.nilFunc] } ∧ E.ti 108 = { k := .slice 112, size := 1, bytes := 24, zero := [.slice none 0 0] } ∧ E.ti 110 = { k := .func, size := 1, bytes := 8, zero := [.nilFunc] } ∧ E.ti 111 = { k := .struct [(0, 61), (1, 22)], size := 2, bytes := 32, zero := [.int .u32 0, .slice none 0 0] } ∧ E.ti 112 = { k := .struct [(0, 61), (1, 22)], size := 2, bytes := 32, zero := [.int .u32 0, .slice none 0 0] } ∧ E.ti 113 = { k := .func, size := 1, bytes := 8, zero := [.nilFunc] } ∧ E.ti 114 = { k := .array 2 3, size := 2, bytes := 16, zero := [.int .i64 0, .int .i64 0] } ∧ E.ti 115 = { k := .func, size := 1, bytes := 8, zero := [.nilFunc] } ∧ E.ti 117 = { k := .func, size := 1, bytes := 8, zero := [.nilFunc] } ∧ E.ti 118 = { k := .struct [(0, 3), (1, 3), (2, 61)], size := 3, bytes := 24, zero := [.int .i64 0, .int .i64 0, .int .u32 0] } ∧ E.ti 119 = { k := .struct [(0, 3), (1, 3), (2, 61)], size := 3, bytes := 24, zero := [.int .i64 0, .int .i64 0, .int .u32 0] } ∧ E.ti 120 = { k := .slice 193, size := 1, bytes := 24, zero := [.slice none 0 0] } ∧ E.ti 122 = { k := .func, size := 1, bytes := 8, zero := [.nilFunc] } ∧ E.ti 123 = { k := .func, size := 1, bytes := 8, zero := [.nilFunc] } ∧ E.ti 125 = { k := .func, size := 1, bytes := 8, zero := [.nilFunc] } ∧ E.ti 126 = { k := .func, size := 1, bytes := 8, zero := [.nilFunc] } ∧ E.ti 128 = { k := .func, size := 1, bytes := 8, zero := [.nilFunc] } ∧ E.ti 130 = { k := .func, size := 1, bytes := 8, zero := [.nilFunc] } ∧ E.ti 131 = { k := .func, size := 1, bytes := 8, zero := [.nilFunc] } ∧ E.ti 132 = { k := .struct [(0, 5), (1, 61), (2, 22)], size := 3, bytes := 32, zero := [.int .u8 0, .int .u32 0, .slice none 0 0] } ∧ E.ti 133 = { k := .struct [(0, 5), (1, 61), (2, 22)], size := 3, bytes := 32, zero := [.int .u8 0, .int .u32 0, .slice none 0 0] } ∧ E.ti 134 = { k := .struct [(0, 5), (1, 61), (2, 22)], size := 3, bytes := 32, zero := [.int .u8 0, .int .u32 0, .slice none 0 0] } ∧ E.ti 135 = { k := .func, size := 1, bytes := 8, zero := [.nilFunc] } ∧ E.ti 136 = { k := .func, size := 1, bytes := 8, zero := [.nilFunc] } ∧ E.ti 138 = { k := .func, size := 1, bytes := 8, zero := [.nilFunc] } ∧ E.ti 140 = { k := .func, size := 1, bytes := 8, zero := [.nilFunc] } ∧ E.ti 142 = { k := .func, size := 1, bytes := 8, zero := [.nilFunc] } ∧ E.ti 143 = { k := .func, size := 1, bytes := 8, zero := [.nilFunc] } ∧ E.ti 144 = { k := .func, size := 1, bytes := 8, zero := [.nilFunc] } ∧ E.ti 145 = { k := .func, size := 1, bytes := 8, zero := [.nilFunc] } ∧ E.ti 146 = { k := .func, size := 1, bytes := 8, zero := [.nilFunc] } ∧ E.ti 147 = { k := .func, size := 1, bytes := 8, zero := [.nilFunc] } ∧ E.ti 148 = { k := .func, size := 1, bytes := 8, zero := [.nilFunc] } ∧ E.ti 149 = { k := .int .i64, size := 1, bytes := 8, zero := [.int .i64 0] } ∧ E.ti 150 = { k := .slice 155, size := 1, bytes := 24, zero := [.slice none 0 0] } ∧ E.ti 151 = { k := .struct [(0, 44), (1, 150), (2, 3), (3, 4)], size := 4, bytes := 64, zero := [.slice none 0 0, .slice none 0 0, .int .i64 0, .bool false] } ∧ E.ti 152 = { k := .struct [(0, 44), (1, 150), (2, 3), (3, 4)], size := 4, bytes := 64, zero := [.slice none 0 0, .slice none 0 0, .int .i64 0, .bool false] } ∧ E.ti 153 = { k := .func, size := 1, bytes := 8, zero := [.nilFunc] } ∧ E.ti 154 = { k := .struct [(0, 3), (1, 22)], size := 2, bytes := 32, zero := [.int .i64 0, .slice none 0 0] } ∧ E.ti 155 = { k := .struct [(0, 3), (1, 22)], size := 2, bytes := 32, zero := [.int .i64 0, .slice none 0 0] } ∧ E.ti 156 = { k := .func, size := 1, bytes := 8, zero := [.nilFunc] } ∧ E.ti 157 = { k := .func, size := 1, bytes := 8, zero := [.nilFunc] } ∧ E.ti 158 = { k := .func, size := 1, bytes := 8, zero := [.nilFunc] } ∧ E.ti 159 = { k := .func, size := 1, bytes := 8, zero := [.nilFunc] } ∧ E.ti 160 = { k := .func, size := 1, bytes := 8, zero := [.nilFunc] } ∧ E.ti 161 = { k := .ptr 149, size := 1, bytes := 8, zero := [.pointer none] } ∧ E.ti 162 = { k := .func, size := 1, bytes := 8, zero := [.nilFunc] } ∧ E.ti 163 = { k := .func, size := 1, bytes := 8, zero := [.nilFunc] } ∧ E.ti 164 = { k := .func, size := 1, bytes := 8, zero := [.nilFunc] } ∧ E.ti 165 = { k := .func, size := 1, bytes := 8, zero := [.nilFunc] } ∧ E.ti 166 = { k := .func, size := 1, bytes := 8, zero := [.nilFunc] } ∧ E.ti 167 = { k := .func, size := 1, bytes := 8, zero := [.nilFunc] } ∧ E.ti 168 = { k := .func, size := 1, bytes := 8, zero := [.nilFunc] } ∧ E.ti 169 = { k := .struct [(0, 3), (1, 22)], size := 2, bytes := 32, zero := [.int .i64 0, .slice none 0 0] } ∧ E.ti 170 = { k := .struct [(0, 3), (1, 22)], size := 2, bytes := 32, zero := [.int .i64 0, .slice none 0 0] } ∧ E.ti 171 = { k := .func, size := 1, bytes := 8, zero := [.nilFunc] } ∧ E.ti 172 = { k := .func, size := 1, bytes := 8, zero := [.nilFunc] } ∧ E.ti 174 = { k := .func, size := 1, bytes := 8, zero := [.nilFunc] } ∧ E.ti 176 = { k := .func, size := 1, bytes := 8, zero := [.nilFunc] } ∧ E.ti 177 = { k := .func, size := 1, bytes := 8, zero := [.nilFunc] } ∧ E.ti 178 = { k := .func, size := 1, bytes := 8, zero := [.nilFunc] } ∧ E.ti 179 = { k := .ptr 181, size := 1, bytes := 8, zero := [.pointer none] } ∧ E.ti 180 = { k := .struct [(0, 22), (1, 4)], size := 2, bytes := 32, zero := [.slice none 0 0, .bool false] } ∧ E.ti 181 = { k := .struct [(0, 22), (1, 4)], size := 2, bytes := 32, zero := [.slice none 0 0, .bool false] } ∧ E.ti 182 = { k := .func, size := 1, bytes := 8, zero := [.nilFunc] } ∧ E.ti 183 = { k := .func, size := 1, bytes := 8, zero := [.nilFunc] } ∧ E.ti 184 = { k := .struct [(0, 24), (1, 3), (2, 3), (3, 61)], size := 4, bytes := 32, zero := [.pointer none, .int .i64 0, .int .i64 0, .int .u32 0] } ∧ E.ti 185 = { k := .struct [(0, 24), (1, 3), (2, 3), (3, 61)], size := 4, bytes := 32, zero := [.pointer none, .int .i64 0, .int .i64 0, .int .u32 0] } ∧ E.ti 186 = { k := .func, size := 1, bytes := 8, zero := [.nilFunc] } ∧ E.ti 188 = { k := .func, size := 1, bytes := 8, zero := [.nilFunc] } ∧ E.ti 189 = { k := .func, size := 1, bytes := 8, zero := [.nilFunc] } ∧ E.ti 190 = { k := .func, size := 1, bytes := 8, zero := [.nilFunc] } ∧ E.ti 192 = { k := .func, size := 1, bytes := 8, zero := [.nilFunc] } ∧ E.ti 193 = { k := .struct [(0, 61), (1, 22)], size := 2, bytes := 32, zero := [.int .u32 0, .slice none 0 0] } ∧ E.ti 195 = { k := .func, size := 1, bytes := 8, zero := [.nilFunc] } ∧ E.ti 196 = { k := .func, size := 1, bytes := 8, zero := [.nilFunc] } ∧ E.ti 198 = { k := .func, size := 1, bytes := 8, zero := [.nilFunc] } ∧ E.ti 199 = { k := .func, size := 1, bytes := 8, zero := [.nilFunc] } ∧ E.ti 200 = { k := .func, size := 1, bytes := 8, zero := [.nilFunc] } ∧ E.ti 201 = { k := .func, size := 1, bytes := 8, zero := [.nilFunc] } ∧ E.ti 202 = { k := .func, size := 1, bytes := 8, zero := [.nilFunc] } ∧ E.ti 203 = { k := .func, size := 1, bytes := 8, zero := [.nilFunc] } ∧ E.ti 204 = { k := .func, size := 1, bytes := 8, zero := [.nilFunc] } ∧ E.ti 205 = { k := .func, size := 1, bytes := 8, zero := [.nilFunc] } ∧ E.ti 206 = { k := .func, size := 1, bytes := 8, zero := [.nilFunc] } ∧ E.ti 208 = { k := .func, size := 1, bytes := 8, zero := [.nilFunc] } ∧ E.ti 209 = { k := .func, size := 1, bytes := 8, zero := [.nilFunc] } ∧ E.ti 211 = { k := .int .u64, size := 1, bytes := 8, zero := [.int .u64 0] } ∧ E.ti 214 = { k := .func, size := 1, bytes := 8, zero := [.nilFunc] } ∧ E.ti 215 = { k := .iface, size := 1, bytes := 16, zero := [.nilIface] } ∧ E.ti 216 = { k := .iface, size := 1, bytes := 16, zero := [.nilIface] } ∧ E.ti 217 = { k := .func, size := 1, bytes := 8, zero := [.nilFunc] } ∧ E.ti 218 = { k := .int .u8, size := 1, bytes := 1, zero := [.int .u8 0] } ∧ E.ti 219 = { k := .func, size := 1, bytes := 8, zero := [.nilFunc] } ∧ E.ti 220 = { k := .func, size := 1, bytes := 8, zero := [.nilFunc] } ∧ E.ti 221 = { k := .func, size := 1, bytes := 8, zero := [.nilFunc] } ∧ E.ti 222 = { k := .func, size := 1, bytes := 8, zero := [.nilFunc] } ∧ E.ti 223 = { k := .func, size := 1, bytes := 8, zero := [.nilFunc] } ∧ E.ti 224 = { k := .func, size := 1, bytes := 8, zero := [.nilFunc] } ∧ E.ti 225 = { k := .func, size := 1, bytes := 8, zero := [.nilFunc] } ∧ E.ti 227 = { k := .func, size := 1, bytes := 8, zero := [.nilFunc] } ∧ E.ti 228 = { k := .func, size := 1, bytes := 8, zero := [.nilFunc] } ∧ E.ti 229 = { k := .array 256 4, size := 256, bytes := 256, zero := List.replicate 256 (.bool false) } ∧ E.ti 230 = { k := .array 256 4, size := 256, bytes := 256, zero := List.replicate 256 (.bool false) } ∧ E.ti 232 = { k := .func, size := 1, bytes := 8, zero := [.nilFunc] } ∧ E.ti 233 = { k := .func, size := 1, bytes := 8, zero := [.nilFunc] } ∧ E.ti 234 = { k := .ptr 230, size := 1, bytes := 8, zero := [.pointer none] } ∧ E.ti 235 = { k := .func, size := 1, bytes := 8, zero := [.nilFunc] } ∧ E.ti 236 = { k := .func, size := 1, bytes := 8, zero := [.nilFunc] } ∧ E.ti 237 = { k := .struct [(0, 17)], size := 1, bytes := 8, zero := [.pointer none] } ∧ E.ti 238 = { k := .struct [(0, 17)], size := 1, bytes := 8, zero := [.pointer none] } ∧ E.ti 239 = { k := .ptr 280, size := 1, bytes := 8, zero := [.pointer none] } ∧ E.ti 240 = { k := .func, size := 1, bytes := 8, zero := [.nilFunc] } ∧ E.ti 241 = { k := .func, size := 1, bytes := 8, zero := [.nilFunc] } ∧ E.ti 242 = { k := .func, size := 1, bytes := 8, zero := [.nilFunc] } ∧ E.ti 243 = { k := .iface, size := 1, bytes := 16, zero := [.nilIface] } ∧ E.ti 245 = { k := .func, size := 1, bytes := 8, zero := [.nilFunc] } ∧ E.ti 246 = { k := .iface, size := 1, bytes := 16, zero := [.nilIface] } ∧ E.ti 247 = { k := .iface, size := 1, bytes := 16, zero := [.nilIface] } ∧ E.ti 248 = { k := .slice 26, size := 1, bytes := 24, zero := [.slice none 0 0] } ∧ E.ti 249 = { k := .func, size := 1, bytes := 8, zero := [.nilFunc] } ∧ E.ti 250 = { k := .func, size := 1, bytes := 8, zero := [.nilFunc] } ∧ E.ti 251 = { k := .func, size := 1, bytes := 8, zero := [.nilFunc] } ∧ E.ti 252 = { k := .func, size := 1, bytes := 8, zero := [.nilFunc] } ∧ E.ti 254 = { k := .func, size := 1, bytes := 8, zero := [.nilFunc] } ∧ E.ti 255 = { k := .func, size := 1, bytes := 8, zero := [.nilFunc] } ∧ E.ti 256 = { k := .func, size := 1, bytes := 8, zero := [.nilFunc] } ∧ E.ti 257 = { k := .array 256 5, size := 256, bytes := 256, zero := List.replicate 256 (.int .u8 0) } ∧ E.ti 258 = { k := .struct [(0, 5), (1, 5)], size := 2, bytes := 2, zero := [.int .u8 0, .int .u8 0] } ∧ E.ti 259 = { k := .struct [(0, 5), (1, 5)], size := 2, bytes := 2, zero := [.int .u8 0, .int .u8 0] } ∧ E.ti 260 = { k := .array 16 259, size := 32, bytes := 32, zero := List.replicate 32 (.int .u8 0) } ∧ E.ti 261 = { k := .func, size := 1, bytes := 8, zero := [.nilFunc] } ∧ E.ti 262 = { k := .func, size := 1, bytes := 8, zero := [.nilFunc] } ∧ E.ti 263 = { k := .func, size := 1, bytes := 8, zero := [.nilFunc] } ∧ E.ti 264 = { k := .struct [(0, 17), (1, 17), (2, 17), (3, 9)], size := 4, bytes := 40, zero := [.pointer none, .pointer none, .pointer none, .string ⟨#[]⟩] } ∧ E.ti 265 = { k := .struct [(0, 17), (1, 17), (2, 17), (3, 9)], size := 4, bytes := 40, zero := [.pointer none, .pointer none, .pointer none, .string ⟨#[]⟩] } ∧ E.ti 266 = { k := .array 0 16, size := 0, bytes := 0, zero := [] } ∧ E.ti 267 = { k := .struct [(0, 266)], size := 0, bytes := 0, zero := [] } ∧ E.ti 268 = { k := .struct [(0, 266)], size := 0, bytes := 0, zero := [] } ∧ E.ti 269 = { k := .func, size := 1, bytes := 8, zero := [.nilFunc] } ∧ E.ti 270 = { k := .int .u8, size := 1, bytes := 1, zero := [.int .u8 0] } ∧ E.ti 271 = { k := .func, size := 1, bytes := 8, zero := [.nilFunc] } ∧ E.ti 272 = { k := .ptr 5, size := 1, bytes := 8, zero := [.pointer none] } ∧ E.ti 273 = { k := .int .i32, size := 1, bytes := 4, zero := [.int .i32 0] } ∧ E.ti 274 = { k := .int .i32, size := 1, bytes := 4, zero := [.int .i32 0] } ∧ E.ti 275 = { k := .struct [(0, 12), (1, 12), (2, 61), (3, 270), (4, 5), (5, 5), (6, 218), (7, 271), (8, 272), (9, 273), (10, 274)], size := 11, bytes := 48, zero := [.int .u64 0, .int .u64 0, .int .u32 0, .int .u8 0, .int .u8 0, .int .u8 0, .int .u8 0, .nilFunc, .pointer none, .int .i32 0, .int .i32 0] } ∧ E.ti 276 = { k := .struct [(0, 12), (1, 12), (2, 61), (3, 270), (4, 5), (5, 5), (6, 218), (7, 271), (8, 272), (9, 273), (10, 274)], size := 11, bytes := 48, zero := [.int .u64 0, .int .u64 0, .int .u32 0, .int .u8 0, .int .u8 0, .int .u8 0, .int .u8 0, .nilFunc, .pointer none, .int .i32 0, .int .i32 0] } ∧ E.ti 277 = { k := .func, size := 1, bytes := 8, zero := [.nilFunc] } ∧ E.ti 278 = { k := .func, size := 1, bytes := 8, zero := [.nilFunc] } ∧ E.ti 279 = { k := .struct [(0, 9), (1, 218)], size := 2, bytes := 24, zero := [.string ⟨#[]⟩, .int .u8 0] } ∧ E.ti 280 = { k := .struct [(0, 9), (1, 218)], size := 2, bytes := 24, zero := [.string ⟨#[]⟩, .int .u8 0] } ∧ E.ti 281 = { k := .ptr 285, size := 1, bytes := 8, zero := [.pointer none] } ∧ E.ti 282 = { k := .func, size := 1, bytes := 8, zero := [.nilFunc] } ∧ E.ti 283 = { k := .int .u16, size := 1, bytes := 2, zero := [.int .u16 0] } ∧ E.ti 284 = { k := .struct [(0, 273), (1, 283), (2, 283), (3, 61), (4, 61)], size := 5, bytes := 16, zero := [.int .i32 0, .int .u16 0, .int .u16 0, .int .u32 0, .int .u32 0] } ∧ E.ti 285 = { k := .struct [(0, 273), (1, 283), (2, 283), (3, 61), (4, 61)], size := 5, bytes := 16, zero := [.int .i32 0, .int .u16 0, .int .u16 0, .int .u32 0, .int .u32 0] } ∧ E.ti 286 = { k := .slice 289, size := 1, bytes := 24, zero := [.slice none 0 0] } ∧ E.ti 287 = { k := .int .i32, size := 1, bytes := 4, zero := [.int .i32 0] } ∧ E.ti 288 = { k := .struct [(0, 273), (1, 274), (2, 287), (3, 287)], size := 4, bytes := 16, zero := List.replicate 4 (.int .i32 0) } ∧ E.ti 289 = { k := .struct [(0, 273), (1, 274), (2, 287), (3, 287)], size := 4, bytes := 16, zero := List.replicate 4 (.int .i32 0) } ∧ E.ti 290 = { k := .ptr 26, size := 1, bytes := 8, zero := [.pointer none] } := ⟨rfl, rfl, rfl, rfl, rfl, rfl, rfl, rfl, rfl, rfl, rfl, rfl, rfl, rfl, rfl, rfl, rfl, rfl, rfl, rfl, rfl, rfl, rfl, rfl, rfl, rfl, rfl, rfl, rfl, rfl, rfl, rfl, rfl, rfl, rfl, rfl, rfl, rfl, rfl, rfl, rfl, rfl, rfl, rfl, rfl, rfl, rfl, rfl, rfl, rfl, rfl, rfl, rfl, rfl, rfl, rfl, rfl, rfl, rfl, rfl, rfl, rfl, rfl, rfl, rfl, rfl, rfl, rfl, rfl, rfl, rfl, rfl, rfl, rfl, rfl, rfl, rfl, rfl, rfl, rfl, rfl, rfl, rfl, rfl, rfl, rfl, rfl, rfl, rfl, rfl, rfl, rfl, rfl, rfl, rfl, rfl, rfl, rfl, rfl, rfl, rfl, rfl, rfl, rfl, rfl, rfl, rfl, rfl, rfl, rfl, rfl, rfl, rfl, rfl, rfl, rfl, rfl, rfl, rfl, rfl, rfl, rfl, rfl, rfl, rfl, rfl, rfl, rfl, rfl, rfl, rfl, rfl, rfl, rfl, rfl, rfl, rfl, rfl, rfl, rfl, rfl, rfl, rfl, rfl, rfl, rfl, rfl, rfl, rfl, rfl, rfl, rfl, rfl, rfl, rfl, rfl, rfl, rfl, rfl, rfl, rfl, rfl, rfl, rfl, rfl, rfl, rfl, rfl, rfl, rfl, rfl, rfl, rfl, rfl, rfl, rfl, rfl, rfl, rfl, rfl, rfl, rfl, rfl, rfl, rfl, rfl, rfl, rfl, rfl, rfl, rfl, rfl, rfl, rfl, rfl, rfl, rfl, rfl, rfl, rfl, rfl, rfl, rfl, rfl, rfl, rfl, rfl, rfl, rfl, rfl, rfl, rfl, rfl, rfl, rfl, rfl, rfl, rfl, rfl, rfl, rfl, rfl, rfl, rfl, rfl, rfl, rfl, rfl, rfl, rfl, rfl, rfl, rfl, rfl, rfl, rfl, rfl, rfl, rfl, rfl, rfl, rfl, rfl, rfl, rfl, rfl, rfl, rfl, rfl, rfl, rfl, rfl, rfl, rfl, rfl, rfl, rfl⟩
end Go.Proofs.YtbppcnhfeobefaaDoor
namespace Go.Proofs.YtbppcnhfeobefaaDoor
open Go Go.RowKit Go.Extern.Stop Go.Stop Go.Extern
theorem Tryd.valueOfP (t : Addr) (w : World) : (ReflectliteValue.unpack (.iface 161 (.pointer (some t)))).run Tryd.prog w
  = .ok (.agg #[.pointer (some ⟨4, 161, none⟩), .pointer (some ⟨w.heap.size, 0, none⟩), .int .u64 150]) (w.alloc (.cells #[.pointer (some t)] 161)) := by kernel_rfl
theorem Tryd.typeP (a : Addr) (w : World) : (ReflectliteValue.methodAny (ReflectliteValue.valueError "reflectlite.Value.Type" 0) (fun t _ _ _ => ReflectliteType.toType t) #[.agg #[.pointer (some ⟨4, 161, none⟩), .pointer (some a), .int .u64 150]]).run Tryd.prog w
  = .ok (.iface 238 (.agg #[.pointer (some ⟨4, 161, none⟩)])) w := by kernel_rfl
theorem Tryd.methodKind (h : Value) (w : World) : (Go.method 391 238 (.agg #[h]) "Kind").run Tryd.prog w = .ok (166, h) w := by kernel_rfl
theorem Tryd.kindP (w : World) : ((ReflectliteType.abiMethod fun t => (fun a : Nat => Value.int IntKind.u8 (a : Int)) <$> Rtype.kind t) #[.pointer (some ⟨4, 161, none⟩)]).run Tryd.prog w = .ok (.int .u8 22) w := by kernel_rfl
theorem Tryd.kindE (w : World) : ((ReflectliteType.abiMethod fun t => (fun a : Nat => Value.int IntKind.u8 (a : Int)) <$> Rtype.kind t) #[.pointer (some ⟨4, 149, none⟩)]).run Tryd.prog w = .ok (.int .u8 2) w := by kernel_rfl
theorem rlm (z : Sem Value) (f : TypeId → Addr → Nat → Nat → Sem Value) (v : Value) :
  ReflectliteValue.method z f #[v] = (do match ← ReflectliteValue.parts v with | none => z | some (t, a, fl) => f t a fl (fl % 32)) := rfl
theorem Tryd.partsP (a : Addr) (w : World) : (ReflectliteValue.parts (.agg #[.pointer (some ⟨4, 161, none⟩), .pointer (some a), .int .u64 150])).run Tryd.prog w = .ok (some (161, a, 150)) w := by kernel_rfl
theorem Tryd.isNilP (a p : Addr) (W : World) (ha : W.cell? a = some (.pointer (some p))) :
  (ReflectliteValue.method (ReflectliteValue.valueError "reflectlite.Value.IsNil" 0) ReflectliteValue.isNil #[.agg #[.pointer (some ⟨4, 161, none⟩), .pointer (some a), .int .u64 150]]).run Tryd.prog W = .ok (.bool false) W := by
 rw [rlm]
 simp only [Sem.run_bind, Tryd.partsP, Result.andThen]
 simp [ReflectliteValue.isNil, loadVar, isAgg, underlying, Tryd.underlying161, ha, Result.andThen]
theorem Tryd.methodElem (h : Value) (w : World) : (Go.method 391 238 (.agg #[h]) "Elem").run Tryd.prog w = .ok (176, .agg #[h]) w := by kernel_rfl
theorem Tryd.methodImplements (h : Value) (w : World) : (Go.method 391 238 (.agg #[h]) "Implements").run Tryd.prog w = .ok (177, .agg #[h]) w := by kernel_rfl
theorem Tryd.methodAssignableTo (h : Value) (w : World) : (Go.method 391 238 (.agg #[h]) "AssignableTo").run Tryd.prog w = .ok (174, .agg #[h]) w := by kernel_rfl
theorem Tryd.elemP (w : World) : (ReflectliteType.method ReflectliteType.elem #[.agg #[.pointer (some ⟨4, 161, none⟩)]]).run Tryd.prog w = .ok (.iface 238 (.agg #[.pointer (some ⟨4, 149, none⟩)])) w := by kernel_rfl
theorem Tryd.implementsE (w : World) : (ReflectliteType.relation "Implements" ReflectliteType.implements_ #[.agg #[.pointer (some ⟨4, 149, none⟩)], .iface 238 (.agg #[.pointer (some ⟨4, 26, none⟩)])]).run Tryd.prog w = .ok (.bool true) w := by kernel_rfl
theorem Tryd.typeOfE (v : Value) (w : World) : (ReflectliteType.typeOf #[.iface 149 v]).run Tryd.prog w = .ok (.iface 238 (.agg #[.pointer (some ⟨4, 149, none⟩)])) w := by kernel_rfl
theorem Tryd.assignableE (w : World) : (ReflectliteType.relation "AssignableTo" ReflectliteType.assignableTo #[.agg #[.pointer (some ⟨4, 149, none⟩)], .iface 238 (.agg #[.pointer (some ⟨4, 149, none⟩)])]).run Tryd.prog w = .ok (.bool true) w := by kernel_rfl
theorem Tryd.valueOfE (e : Int) (w : World) : (ReflectliteValue.unpack (.iface 149 (.int .i64 e))).run Tryd.prog w
  = .ok (.agg #[.pointer (some ⟨4, 149, none⟩), .pointer (some ⟨w.heap.size, 0, none⟩), .int .u64 130]) (w.alloc (.cells #[.int .i64 e] 149)) := by kernel_rfl
theorem Tryd.elemOfP (w : World) : (Rtype.elem? 161).run Tryd.prog w = .ok (some 149) w := by kernel_rfl
theorem Tryd.mkE (p : Addr) (w : World) : (ReflectliteValue.mk 149 p ReflectliteValue.flagAddr).run Tryd.prog w = .ok (.agg #[.pointer (some ⟨4, 149, none⟩), .pointer (some p), .int .u64 386]) w := by kernel_rfl
theorem Tryd.elemVP (a p : Addr) (W : World) (ha : W.cell? a = some (.pointer (some p))) :
  (ReflectliteValue.method (ReflectliteValue.valueError "reflectlite.Value.Elem" 0) ReflectliteValue.elem #[.agg #[.pointer (some ⟨4, 161, none⟩), .pointer (some a), .int .u64 150]]).run Tryd.prog W
   = .ok (.agg #[.pointer (some ⟨4, 149, none⟩), .pointer (some p), .int .u64 386]) W := by
 rw [rlm]
 simp only [Sem.run_bind, Tryd.partsP, Result.andThen]
 simp [ReflectliteValue.elem, loadVar, isAgg, underlying, Tryd.underlying161, ha, Result.andThen, Tryd.elemOfP, Tryd.mkE]
theorem rls (v x : Value) : ReflectliteValue.set #[v, x] = (do
  let (some (dst, a, fl), some (src, b, _)) := (← ReflectliteValue.parts v, ← ReflectliteValue.parts x)
   | unsupported (.noEntry "extern/(internal/reflectlite.Value).Set.zeroValue")
  if fl / ReflectliteValue.flagAddr % 2 == 0 then unsupported (.noEntry "extern/(internal/reflectlite.Value).Set.unaddressable")
  let val ← loadVar src b
  if ← Rtype.directlyAssignable dst src then storeVar dst a val
  else if ← Rtype.implements dst src then
   if (← Rtype.kind src) == 20 then
    match val with
    | .nilIface => unsupported (.noEntry "extern/reflectlite: a nil value of one interface type handed on as a value of another")
    | _ => storeVar dst a val
   else storeVar dst a (.iface src val)
  else panicString ("reflectlite.Set: value of type " ++ (← Rtype.spelt src) ++ " is not assignable to type " ++ (← Rtype.spelt dst))
  pure (.tuple #[])) := rfl
theorem Tryd.partsEa (a : Addr) (w : World) : (ReflectliteValue.parts (.agg #[.pointer (some ⟨4, 149, none⟩), .pointer (some a), .int .u64 386])).run Tryd.prog w = .ok (some (149, a, 386)) w := by kernel_rfl
theorem Tryd.partsE (a : Addr) (w : World) : (ReflectliteValue.parts (.agg #[.pointer (some ⟨4, 149, none⟩), .pointer (some a), .int .u64 130])).run Tryd.prog w = .ok (some (149, a, 130)) w := by kernel_rfl
theorem Tryd.directE (w : World) : (Rtype.directlyAssignable 149 149).run Tryd.prog w = .ok true w := by kernel_rfl
theorem Tryd.setE (ta b : Addr) (e : Int) (old : Value) (W : World) (hb : W.cell? b = some (.int .i64 e)) (ht : W.cell? ta = some old) (hf : W.frozen? ta = false) :
  (ReflectliteValue.set #[.agg #[.pointer (some ⟨4, 149, none⟩), .pointer (some ta), .int .u64 386], .agg #[.pointer (some ⟨4, 149, none⟩), .pointer (some b), .int .u64 130]]).run Tryd.prog W
   = .ok (.tuple #[]) (W.setCell ta (.int .i64 e)) := by
 rw [rls]
 simp only [Sem.run_bind, Tryd.partsEa, Tryd.partsE, Result.andThen]
 simp [ReflectliteValue.flagAddr, loadVar, isAgg, underlying, Tryd.underlying149, hb, Result.andThen, Tryd.directE, storeVar, Value.cells, storeCells, Addr.add]
 rw [run_store Tryd.prog W ta _ _ (by rfl)]
 simp [ht, hf]
set_option maxHeartbeats 4000000 in
theorem as_hit (e : Int) (t : Addr) (old : Value) (w : World) (hg : w.cell? ⟨0, 0, none⟩ = some (.iface 238 (.agg #[.pointer (some ⟨4, 26, none⟩)]))) (ht0 : w.cell? t = some old) (hf0 : w.frozen? t = false) :
  Calls Tryd.prog 88 #[.iface 149 (.int .i64 e), .iface 161 (.pointer (some t))] w fun ev w' => ev = .returned (.bool true) ∧
   w' = ((((w.alloc (.cells #[.pointer (some t)] 161)).alloc (.cells #[.pointer (some ⟨4, 161, none⟩), .pointer (some ⟨w.heap.size, 0, none⟩), .int .u64 150] 213)).alloc (.cells #[.pointer (some ⟨4, 161, none⟩), .pointer (some ⟨w.heap.size, 0, none⟩), .int .u64 150] 213)).alloc (.cells #[.int .i64 e] 149)).setCell t (.int .i64 e) := by
 have h6 := @run_callFunc_extern Tryd.prog 122 _ (fun args => ReflectliteValue.unpack (args.getD 0 (.tuple #[]))) Tryd.func122 (by kernel_rfl) (by kernel_rfl) (by kernel_rfl) (by kernel_rfl)
 have h7 := @run_callFunc_extern Tryd.prog 123 _ (ReflectliteValue.methodAny (ReflectliteValue.valueError "reflectlite.Value.Type" 0) (fun t _ _ _ => ReflectliteType.toType t)) Tryd.func123 (by kernel_rfl) (by kernel_rfl) (by kernel_rfl) (by kernel_rfl)
 have h8 := @run_callFunc_extern Tryd.prog 124 _ (ReflectliteValue.method (ReflectliteValue.valueError "reflectlite.Value.IsNil" 0) ReflectliteValue.isNil) Tryd.func124 (by kernel_rfl) (by kernel_rfl) (by kernel_rfl) (by kernel_rfl)
 have h27 := @run_callFunc_extern Tryd.prog 166 _ (ReflectliteType.abiMethod fun t => do pure (.int .u8 (← Rtype.kind t))) Tryd.func166 (by kernel_rfl) (by kernel_rfl) (by kernel_rfl) (by kernel_rfl)
 have h37 := @run_callFunc_extern Tryd.prog 176 _ (ReflectliteType.method ReflectliteType.elem) Tryd.func176 (by kernel_rfl) (by kernel_rfl) (by kernel_rfl) (by kernel_rfl)
 have h38 := @run_callFunc_extern Tryd.prog 177 _ (ReflectliteType.relation "Implements" ReflectliteType.implements_) Tryd.func177 (by kernel_rfl) (by kernel_rfl) (by kernel_rfl) (by kernel_rfl)
 have h10 := @run_callFunc_extern Tryd.prog 138 _ ReflectliteType.typeOf Tryd.func138 (by kernel_rfl) (by kernel_rfl) (by kernel_rfl) (by kernel_rfl)
 have h35 := @run_callFunc_extern Tryd.prog 174 _ (ReflectliteType.relation "AssignableTo" ReflectliteType.assignableTo) Tryd.func174 (by kernel_rfl) (by kernel_rfl) (by kernel_rfl) (by kernel_rfl)
 have h11 := @run_callFunc_extern Tryd.prog 139 _ (ReflectliteValue.method (ReflectliteValue.valueError "reflectlite.Value.Elem" 0) ReflectliteValue.elem) Tryd.func139 (by kernel_rfl) (by kernel_rfl) (by kernel_rfl) (by kernel_rfl)
 have h12 := @run_callFunc_extern Tryd.prog 140 _ ReflectliteValue.set Tryd.func140 (by kernel_rfl) (by kernel_rfl) (by kernel_rfl) (by kernel_rfl)
 have tO := Tryd.typeOfE
 have mA := Tryd.methodAssignableTo
 have a25 := Tryd.assignableE
 have v25 := Tryd.valueOfE
 have f6 := Tryd.valueOfP
 have f7 := Tryd.typeP
 have mK := Tryd.methodKind
 have mE := Tryd.methodElem
 have mI := Tryd.methodImplements
 have k27 := Tryd.kindP
 have k25 := Tryd.kindE
 have e27 := Tryd.elemP
 have i25 := Tryd.implementsE
 have n8 := Tryd.isNilP ⟨w.heap.size, 0, none⟩ t ((w.alloc (.cells #[.pointer (some t)] 161)).alloc (.cells #[.pointer (some ⟨4, 161, none⟩), .pointer (some ⟨w.heap.size, 0, none⟩), .int .u64 150] 213)) (by simp)
 have hlt : 0 < w.heap.size := by
  rcases Nat.lt_or_ge 0 w.heap.size with h | h
  ·exact h
  ·simp [World.cell?, Array.getElem?_eq_none h] at hg
 have hg2 : ((w.alloc (.cells #[.pointer (some t)] 161)).alloc (.cells #[.pointer (some ⟨4, 161, none⟩), .pointer (some ⟨w.heap.size, 0, none⟩), .int .u64 150] 213)).cell? ⟨0, 0, none⟩ = some (.iface 238 (.agg #[.pointer (some ⟨4, 26, none⟩)])) := by
  rw [World.cell?_alloc_lt _ _ ⟨0, 0, none⟩ (by first | (simp; done) | (simp; omega)), World.cell?_alloc_lt _ _ ⟨0, 0, none⟩ hlt]; exact hg
 have htl : t.block < w.heap.size := by
  rcases Nat.lt_or_ge t.block w.heap.size with h | h
  ·exact h
  ·simp [World.cell?, Array.getElem?_eq_none h] at ht0
 have el := Tryd.elemVP ⟨w.heap.size, 0, none⟩ t (((w.alloc (.cells #[.pointer (some t)] 161)).alloc (.cells #[.pointer (some ⟨4, 161, none⟩), .pointer (some ⟨w.heap.size, 0, none⟩), .int .u64 150] 213)).alloc (.cells #[.pointer (some ⟨4, 161, none⟩), .pointer (some ⟨w.heap.size, 0, none⟩), .int .u64 150] 213)) (by rw [World.cell?_alloc_lt _ _ ⟨w.heap.size, 0, none⟩ (by simp; omega)]; simp)
 have st := Tryd.setE t ⟨w.heap.size + 1 + 1 + 1, 0, none⟩ e old ((((w.alloc (.cells #[.pointer (some t)] 161)).alloc (.cells #[.pointer (some ⟨4, 161, none⟩), .pointer (some ⟨w.heap.size, 0, none⟩), .int .u64 150] 213)).alloc (.cells #[.pointer (some ⟨4, 161, none⟩), .pointer (some ⟨w.heap.size, 0, none⟩), .int .u64 150] 213)).alloc (.cells #[.int .i64 e] 149))
  (by rw [World.cell?_alloc_at _ _ _ _ (by simp)]; rfl)
  (by rw [World.cell?_alloc_lt _ _ t (by simp; omega), World.cell?_alloc_lt _ _ t (by simp; omega), World.cell?_alloc_lt _ _ t (by simp; omega), World.cell?_alloc_lt _ _ t htl]; exact ht0)
  (by rw [World.frozen?_alloc_old _ _ t (by simp; omega), World.frozen?_alloc_old _ _ t (by simp; omega), World.frozen?_alloc_old _ _ t (by simp; omega), World.frozen?_alloc_old _ _ t (Nat.ne_of_lt htl)]; exact hf0)
 go_enter Tryd.func88, Tryd.ntmps88
 go_wp2
 refine wp_loop_rounds 1 ?_
 rw [rounds_succ]
 go_wp2
 go_ret
 exact ⟨rfl, rfl⟩
end Go.Proofs.YtbppcnhfeobefaaDoor
