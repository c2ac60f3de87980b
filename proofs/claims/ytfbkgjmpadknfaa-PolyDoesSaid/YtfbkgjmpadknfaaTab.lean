/-
  The types of the program, as the evaluator wants them.
-/
import Derived.Test.YtfbkgjmpadknfaaProg
import Derived.Test.YtfbkgjmpadknfaaAh14
namespace Go.Proofs.Ytfbkgjmpadknfaa.T
open Go.Proofs.YtfbkgjmpadknfaaW.Ah
abbrev i1 : TI := { k := .func, size := 1, bytes := 8, zero := [.nilFunc] }
abbrev i2 : TI := { k := .int .i64, size := 1, bytes := 8, zero := [.int .i64 0] }
abbrev i3 : TI := { k := .int .i64, size := 1, bytes := 8, zero := [.int .i64 0] }
abbrev i4 : TI := { k := .bool, size := 1, bytes := 1, zero := [.bool false] }
abbrev i5 : TI := { k := .int .u8, size := 1, bytes := 1, zero := [.int .u8 0] }
abbrev i6 : TI := { k := .int .u8, size := 1, bytes := 1, zero := [.int .u8 0] }
abbrev i7 : TI := { k := .struct [(0, 2), (1, 3), (2, 4), (3, 6)], size := 4, bytes := 24, zero := [.int .i64 0, .int .i64 0, .bool false, .int .u8 0], eq := true }
abbrev i8 : TI := { k := .struct [(0, 2), (1, 3), (2, 4), (3, 6)], size := 4, bytes := 24, zero := [.int .i64 0, .int .i64 0, .bool false, .int .u8 0], eq := true }
abbrev i9 : TI := { k := .str, size := 1, bytes := 16, zero := [.string ⟨#[]⟩] }
abbrev i10 : TI := { k := .str, size := 1, bytes := 16, zero := [.string ⟨#[]⟩] }
abbrev i11 : TI := { k := .str, size := 1, bytes := 16, zero := [.string ⟨#[]⟩] }
abbrev i12 : TI := { k := .int .u64, size := 1, bytes := 8, zero := [.int .u64 0] }
abbrev i13 : TI := { k := .struct [(0, 9), (1, 12)], size := 2, bytes := 24, zero := [.string ⟨#[]⟩, .int .u64 0] }
abbrev i14 : TI := { k := .struct [(0, 9), (1, 12)], size := 2, bytes := 24, zero := [.string ⟨#[]⟩, .int .u64 0] }
abbrev i15 : TI := { k := .ptr 173, size := 1, bytes := 8, zero := [.pointer none] }
abbrev i16 : TI := { k := .ptr 176, size := 1, bytes := 8, zero := [.pointer none] }
abbrev i17 : TI := { k := .ptr 184, size := 1, bytes := 8, zero := [.pointer none] }
abbrev i18 : TI := { k := .struct [(0, 17)], size := 1, bytes := 8, zero := [.pointer none] }
abbrev i19 : TI := { k := .struct [(0, 17)], size := 1, bytes := 8, zero := [.pointer none] }
abbrev i21 : TI := { k := .int .i32, size := 1, bytes := 4, zero := [.int .i32 0] }
abbrev i22 : TI := { k := .ptr 92, size := 1, bytes := 8, zero := [.pointer none] }
abbrev i23 : TI := { k := .int .i64, size := 1, bytes := 8, zero := [.int .i64 0] }
abbrev i25 : TI := { k := .func, size := 1, bytes := 8, zero := [.nilFunc] }
abbrev i26 : TI := { k := .func, size := 1, bytes := 8, zero := [.nilFunc] }
abbrev i27 : TI := { k := .struct [(0, 2), (1, 3), (2, 2)], size := 3, bytes := 24, zero := [.int .i64 0, .int .i64 0, .int .i64 0], eq := true }
abbrev i28 : TI := { k := .struct [(0, 2), (1, 3), (2, 2)], size := 3, bytes := 24, zero := [.int .i64 0, .int .i64 0, .int .i64 0], eq := true }
abbrev i30 : TI := { k := .func, size := 1, bytes := 8, zero := [.nilFunc] }
abbrev i32 : TI := { k := .func, size := 1, bytes := 8, zero := [.nilFunc] }
abbrev i33 : TI := { k := .func, size := 1, bytes := 8, zero := [.nilFunc] }
abbrev i34 : TI := { k := .func, size := 1, bytes := 8, zero := [.nilFunc] }
abbrev i35 : TI := { k := .func, size := 1, bytes := 8, zero := [.nilFunc] }
abbrev i36 : TI := { k := .slice 97, size := 1, bytes := 24, zero := [.slice none 0 0] }
abbrev i37 : TI := { k := .slice 97, size := 1, bytes := 24, zero := [.slice none 0 0] }
abbrev i38 : TI := { k := .func, size := 1, bytes := 8, zero := [.nilFunc] }
abbrev i39 : TI := { k := .slice 37, size := 1, bytes := 24, zero := [.slice none 0 0] }
abbrev i41 : TI := { k := .func, size := 1, bytes := 8, zero := [.nilFunc] }
abbrev i42 : TI := { k := .func, size := 1, bytes := 8, zero := [.nilFunc] }
abbrev i43 : TI := { k := .func, size := 1, bytes := 8, zero := [.nilFunc] }
abbrev i44 : TI := { k := .func, size := 1, bytes := 8, zero := [.nilFunc] }
abbrev i45 : TI := { k := .slice 2, size := 1, bytes := 24, zero := [.slice none 0 0] }
abbrev i46 : TI := { k := .int .u32, size := 1, bytes := 4, zero := [.int .u32 0] }
abbrev i48 : TI := { k := .func, size := 1, bytes := 8, zero := [.nilFunc] }
abbrev i49 : TI := { k := .func, size := 1, bytes := 8, zero := [.nilFunc] }
abbrev i50 : TI := { k := .slice 5, size := 1, bytes := 24, zero := [.slice none 0 0] }
abbrev i51 : TI := { k := .func, size := 1, bytes := 8, zero := [.nilFunc] }
abbrev i52 : TI := { k := .func, size := 1, bytes := 8, zero := [.nilFunc] }
abbrev i54 : TI := { k := .func, size := 1, bytes := 8, zero := [.nilFunc] }
abbrev i55 : TI := { k := .func, size := 1, bytes := 8, zero := [.nilFunc] }
abbrev i56 : TI := { k := .func, size := 1, bytes := 8, zero := [.nilFunc] }
abbrev i57 : TI := { k := .func, size := 1, bytes := 8, zero := [.nilFunc] }
abbrev i58 : TI := { k := .func, size := 1, bytes := 8, zero := [.nilFunc] }
abbrev i59 : TI := { k := .func, size := 1, bytes := 8, zero := [.nilFunc] }
abbrev i60 : TI := { k := .func, size := 1, bytes := 8, zero := [.nilFunc] }
abbrev i62 : TI := { k := .func, size := 1, bytes := 8, zero := [.nilFunc] }
abbrev i64 : TI := { k := .func, size := 1, bytes := 8, zero := [.nilFunc] }
abbrev i65 : TI := { k := .func, size := 1, bytes := 8, zero := [.nilFunc] }
abbrev i66 : TI := { k := .func, size := 1, bytes := 8, zero := [.nilFunc] }
abbrev i67 : TI := { k := .func, size := 1, bytes := 8, zero := [.nilFunc] }
abbrev i68 : TI := { k := .func, size := 1, bytes := 8, zero := [.nilFunc] }
abbrev i69 : TI := { k := .slice 72, size := 1, bytes := 24, zero := [.slice none 0 0] }
abbrev i70 : TI := { k := .map 3 28, size := 1, bytes := 8, zero := [.map none] }
abbrev i71 : TI := { k := .struct [(0, 5), (1, 2), (2, 2)], size := 3, bytes := 24, zero := [.int .u8 0, .int .i64 0, .int .i64 0], eq := true }
abbrev i72 : TI := { k := .struct [(0, 5), (1, 2), (2, 2)], size := 3, bytes := 24, zero := [.int .u8 0, .int .i64 0, .int .i64 0], eq := true }
abbrev i73 : TI := { k := .func, size := 1, bytes := 8, zero := [.nilFunc] }
abbrev i74 : TI := { k := .slice 28, size := 1, bytes := 24, zero := [.slice none 0 0] }
abbrev i75 : TI := { k := .func, size := 1, bytes := 8, zero := [.nilFunc] }
abbrev i76 : TI := { k := .func, size := 1, bytes := 8, zero := [.nilFunc] }
abbrev i77 : TI := { k := .func, size := 1, bytes := 8, zero := [.nilFunc] }
abbrev i78 : TI := { k := .ptr 126, size := 1, bytes := 8, zero := [.pointer none] }
abbrev i80 : TI := { k := .func, size := 1, bytes := 8, zero := [.nilFunc] }
abbrev i81 : TI := { k := .func, size := 1, bytes := 8, zero := [.nilFunc] }
abbrev i82 : TI := { k := .func, size := 1, bytes := 8, zero := [.nilFunc] }
abbrev i84 : TI := { k := .func, size := 1, bytes := 8, zero := [.nilFunc] }
abbrev i85 : TI := { k := .func, size := 1, bytes := 8, zero := [.nilFunc] }
abbrev i86 : TI := { k := .func, size := 1, bytes := 8, zero := [.nilFunc] }
abbrev i87 : TI := { k := .func, size := 1, bytes := 8, zero := [.nilFunc] }
abbrev i88 : TI := { k := .struct [(0, 2)], size := 1, bytes := 8, zero := [.int .i64 0], eq := true }
abbrev i89 : TI := { k := .struct [(0, 2)], size := 1, bytes := 8, zero := [.int .i64 0], eq := true }
abbrev i90 : TI := { k := .slice 28, size := 1, bytes := 24, zero := [.slice none 0 0] }
abbrev i91 : TI := { k := .struct [(0, 89), (1, 90), (2, 3), (3, 3)], size := 4, bytes := 48, zero := [.int .i64 0, .slice none 0 0, .int .i64 0, .int .i64 0] }
abbrev i92 : TI := { k := .struct [(0, 89), (1, 90), (2, 3), (3, 3)], size := 4, bytes := 48, zero := [.int .i64 0, .slice none 0 0, .int .i64 0, .int .i64 0] }
abbrev i93 : TI := { k := .func, size := 1, bytes := 8, zero := [.nilFunc] }
abbrev i94 : TI := { k := .func, size := 1, bytes := 8, zero := [.nilFunc] }
abbrev i95 : TI := { k := .arr 12 5, size := 12, bytes := 12, zero := List.replicate 12 (.int .u8 0), eq := true }
abbrev i96 : TI := { k := .struct [(0, 95), (12, 2)], size := 13, bytes := 24, zero := [.int .u8 0, .int .u8 0, .int .u8 0, .int .u8 0, .int .u8 0, .int .u8 0, .int .u8 0, .int .u8 0, .int .u8 0, .int .u8 0, .int .u8 0, .int .u8 0, .int .i64 0], eq := true }
abbrev i97 : TI := { k := .struct [(0, 95), (12, 2)], size := 13, bytes := 24, zero := [.int .u8 0, .int .u8 0, .int .u8 0, .int .u8 0, .int .u8 0, .int .u8 0, .int .u8 0, .int .u8 0, .int .u8 0, .int .u8 0, .int .u8 0, .int .u8 0, .int .i64 0], eq := true }
abbrev i98 : TI := { k := .func, size := 1, bytes := 8, zero := [.nilFunc] }
abbrev i99 : TI := { k := .func, size := 1, bytes := 8, zero := [.nilFunc] }
abbrev i100 : TI := { k := .func, size := 1, bytes := 8, zero := [.nilFunc] }
abbrev i101 : TI := { k := .func, size := 1, bytes := 8, zero := [.nilFunc] }
abbrev i103 : TI := { k := .func, size := 1, bytes := 8, zero := [.nilFunc] }
abbrev i104 : TI := { k := .func, size := 1, bytes := 8, zero := [.nilFunc] }
abbrev i106 : TI := { k := .func, size := 1, bytes := 8, zero := [.nilFunc] }
abbrev i107 : TI := { k := .func, size := 1, bytes := 8, zero := [.nilFunc] }
abbrev i108 : TI := { k := .func, size := 1, bytes := 8, zero := [.nilFunc] }
abbrev i109 : TI := { k := .func, size := 1, bytes := 8, zero := [.nilFunc] }
abbrev i110 : TI := { k := .func, size := 1, bytes := 8, zero := [.nilFunc] }
abbrev i111 : TI := { k := .func, size := 1, bytes := 8, zero := [.nilFunc] }
abbrev i112 : TI := { k := .arr 12 5, size := 12, bytes := 12, zero := List.replicate 12 (.int .u8 0), eq := true }
abbrev i113 : TI := { k := .func, size := 1, bytes := 8, zero := [.nilFunc] }
abbrev i114 : TI := { k := .func, size := 1, bytes := 8, zero := [.nilFunc] }
abbrev i115 : TI := { k := .func, size := 1, bytes := 8, zero := [.nilFunc] }
abbrev i116 : TI := { k := .func, size := 1, bytes := 8, zero := [.nilFunc] }
abbrev i117 : TI := { k := .func, size := 1, bytes := 8, zero := [.nilFunc] }
abbrev i118 : TI := { k := .func, size := 1, bytes := 8, zero := [.nilFunc] }
abbrev i119 : TI := { k := .func, size := 1, bytes := 8, zero := [.nilFunc] }
abbrev i120 : TI := { k := .func, size := 1, bytes := 8, zero := [.nilFunc] }
abbrev i121 : TI := { k := .func, size := 1, bytes := 8, zero := [.nilFunc] }
abbrev i122 : TI := { k := .map 3 4, size := 1, bytes := 8, zero := [.map none] }
abbrev i123 : TI := { k := .func, size := 1, bytes := 8, zero := [.nilFunc] }
abbrev i124 : TI := { k := .func, size := 1, bytes := 8, zero := [.nilFunc] }
abbrev i125 : TI := { k := .struct [(0, 74), (1, 3), (2, 2), (3, 3)], size := 4, bytes := 48, zero := [.slice none 0 0, .int .i64 0, .int .i64 0, .int .i64 0] }
abbrev i126 : TI := { k := .struct [(0, 74), (1, 3), (2, 2), (3, 3)], size := 4, bytes := 48, zero := [.slice none 0 0, .int .i64 0, .int .i64 0, .int .i64 0] }
abbrev i127 : TI := { k := .func, size := 1, bytes := 8, zero := [.nilFunc] }
abbrev i128 : TI := { k := .func, size := 1, bytes := 8, zero := [.nilFunc] }
abbrev i129 : TI := { k := .func, size := 1, bytes := 8, zero := [.nilFunc] }
abbrev i130 : TI := { k := .func, size := 1, bytes := 8, zero := [.nilFunc] }
abbrev i131 : TI := { k := .func, size := 1, bytes := 8, zero := [.nilFunc] }
abbrev i132 : TI := { k := .func, size := 1, bytes := 8, zero := [.nilFunc] }
abbrev i133 : TI := { k := .func, size := 1, bytes := 8, zero := [.nilFunc] }
abbrev i134 : TI := { k := .func, size := 1, bytes := 8, zero := [.nilFunc] }
abbrev i135 : TI := { k := .func, size := 1, bytes := 8, zero := [.nilFunc] }
abbrev i136 : TI := { k := .func, size := 1, bytes := 8, zero := [.nilFunc] }
abbrev i137 : TI := { k := .func, size := 1, bytes := 8, zero := [.nilFunc] }
abbrev i138 : TI := { k := .func, size := 1, bytes := 8, zero := [.nilFunc] }
abbrev i139 : TI := { k := .func, size := 1, bytes := 8, zero := [.nilFunc] }
abbrev i140 : TI := { k := .func, size := 1, bytes := 8, zero := [.nilFunc] }
abbrev i141 : TI := { k := .func, size := 1, bytes := 8, zero := [.nilFunc] }
abbrev i142 : TI := { k := .func, size := 1, bytes := 8, zero := [.nilFunc] }
abbrev i143 : TI := { k := .func, size := 1, bytes := 8, zero := [.nilFunc] }
abbrev i144 : TI := { k := .func, size := 1, bytes := 8, zero := [.nilFunc] }
abbrev i145 : TI := { k := .func, size := 1, bytes := 8, zero := [.nilFunc] }
abbrev i146 : TI := { k := .func, size := 1, bytes := 8, zero := [.nilFunc] }
abbrev i147 : TI := { k := .int .u64, size := 1, bytes := 8, zero := [.int .u64 0] }
abbrev i148 : TI := { k := .slice 3, size := 1, bytes := 24, zero := [.slice none 0 0] }
abbrev i149 : TI := { k := .func, size := 1, bytes := 8, zero := [.nilFunc] }
abbrev i150 : TI := { k := .func, size := 1, bytes := 8, zero := [.nilFunc] }
abbrev i151 : TI := { k := .func, size := 1, bytes := 8, zero := [.nilFunc] }
abbrev i152 : TI := { k := .int .i64, size := 1, bytes := 8, zero := [.int .i64 0] }
abbrev i154 : TI := { k := .func, size := 1, bytes := 8, zero := [.nilFunc] }
abbrev i155 : TI := { k := .func, size := 1, bytes := 8, zero := [.nilFunc] }
abbrev i156 : TI := { k := .func, size := 1, bytes := 8, zero := [.nilFunc] }
abbrev i158 : TI := { k := .func, size := 1, bytes := 8, zero := [.nilFunc] }
abbrev i159 : TI := { k := .func, size := 1, bytes := 8, zero := [.nilFunc] }
abbrev i160 : TI := { k := .func, size := 1, bytes := 8, zero := [.nilFunc] }
abbrev i161 : TI := { k := .int .u64, size := 1, bytes := 8, zero := [.int .u64 0] }
abbrev i162 : TI := { k := .int .u64, size := 1, bytes := 8, zero := [.int .u64 0] }
abbrev i163 : TI := { k := .func, size := 1, bytes := 8, zero := [.nilFunc] }
abbrev i164 : TI := { k := .func, size := 1, bytes := 8, zero := [.nilFunc] }
abbrev i165 : TI := { k := .func, size := 1, bytes := 8, zero := [.nilFunc] }
abbrev i166 : TI := { k := .ptr 3, size := 1, bytes := 8, zero := [.pointer none] }
abbrev i167 : TI := { k := .func, size := 1, bytes := 8, zero := [.nilFunc] }
abbrev i168 : TI := { k := .ptr 162, size := 1, bytes := 8, zero := [.pointer none] }
abbrev i170 : TI := { k := .func, size := 1, bytes := 8, zero := [.nilFunc] }
abbrev i171 : TI := { k := .func, size := 1, bytes := 8, zero := [.nilFunc] }
abbrev i172 : TI := { k := .struct [(0, 17), (1, 17), (2, 17), (3, 9)], size := 4, bytes := 40, zero := [.pointer none, .pointer none, .pointer none, .string ⟨#[]⟩] }
abbrev i173 : TI := { k := .struct [(0, 17), (1, 17), (2, 17), (3, 9)], size := 4, bytes := 40, zero := [.pointer none, .pointer none, .pointer none, .string ⟨#[]⟩] }
abbrev i174 : TI := { k := .arr 0 16, size := 0, bytes := 0, zero := [] }
abbrev i175 : TI := { k := .struct [(0, 174)], size := 0, bytes := 0, zero := [] }
abbrev i176 : TI := { k := .struct [(0, 174)], size := 0, bytes := 0, zero := [] }
abbrev i177 : TI := { k := .int .u8, size := 1, bytes := 1, zero := [.int .u8 0] }
abbrev i178 : TI := { k := .int .u8, size := 1, bytes := 1, zero := [.int .u8 0] }
abbrev i179 : TI := { k := .func, size := 1, bytes := 8, zero := [.nilFunc] }
abbrev i180 : TI := { k := .ptr 5, size := 1, bytes := 8, zero := [.pointer none] }
abbrev i181 : TI := { k := .int .i32, size := 1, bytes := 4, zero := [.int .i32 0] }
abbrev i182 : TI := { k := .int .i32, size := 1, bytes := 4, zero := [.int .i32 0] }
abbrev i183 : TI := { k := .struct [(0, 12), (1, 12), (2, 46), (3, 177), (4, 5), (5, 5), (6, 178), (7, 179), (8, 180), (9, 181), (10, 182)], size := 11, bytes := 48, zero := [.int .u64 0, .int .u64 0, .int .u32 0, .int .u8 0, .int .u8 0, .int .u8 0, .int .u8 0, .nilFunc, .pointer none, .int .i32 0, .int .i32 0] }
abbrev i184 : TI := { k := .struct [(0, 12), (1, 12), (2, 46), (3, 177), (4, 5), (5, 5), (6, 178), (7, 179), (8, 180), (9, 181), (10, 182)], size := 11, bytes := 48, zero := [.int .u64 0, .int .u64 0, .int .u32 0, .int .u8 0, .int .u8 0, .int .u8 0, .int .u8 0, .nilFunc, .pointer none, .int .i32 0, .int .i32 0] }
def L : List (Nat × TI) := [(1, i1), (2, i2), (3, i3), (4, i4), (5, i5), (6, i6), (7, i7), (8, i8), (9, i9), (10, i10), (11, i11), (12, i12), (13, i13), (14, i14), (15, i15), (16, i16), (17, i17), (18, i18), (19, i19), (21, i21), (22, i22), (23, i23), (25, i25), (26, i26), (27, i27), (28, i28), (30, i30), (32, i32), (33, i33), (34, i34), (35, i35), (36, i36), (37, i37), (38, i38), (39, i39), (41, i41), (42, i42), (43, i43), (44, i44), (45, i45), (46, i46), (48, i48), (49, i49), (50, i50), (51, i51), (52, i52), (54, i54), (55, i55), (56, i56), (57, i57), (58, i58), (59, i59), (60, i60), (62, i62), (64, i64), (65, i65), (66, i66), (67, i67), (68, i68), (69, i69), (70, i70), (71, i71), (72, i72), (73, i73), (74, i74), (75, i75), (76, i76), (77, i77), (78, i78), (80, i80), (81, i81), (82, i82), (84, i84), (85, i85), (86, i86), (87, i87), (88, i88), (89, i89), (90, i90), (91, i91), (92, i92), (93, i93), (94, i94), (95, i95), (96, i96), (97, i97), (98, i98), (99, i99), (100, i100), (101, i101), (103, i103), (104, i104), (106, i106), (107, i107), (108, i108), (109, i109), (110, i110), (111, i111), (112, i112), (113, i113), (114, i114), (115, i115), (116, i116), (117, i117), (118, i118), (119, i119), (120, i120), (121, i121), (122, i122), (123, i123), (124, i124), (125, i125), (126, i126), (127, i127), (128, i128), (129, i129), (130, i130), (131, i131), (132, i132), (133, i133), (134, i134), (135, i135), (136, i136), (137, i137), (138, i138), (139, i139), (140, i140), (141, i141), (142, i142), (143, i143), (144, i144), (145, i145), (146, i146), (147, i147), (148, i148), (149, i149), (150, i150), (151, i151), (152, i152), (154, i154), (155, i155), (156, i156), (158, i158), (159, i159), (160, i160), (161, i161), (162, i162), (163, i163), (164, i164), (165, i165), (166, i166), (167, i167), (168, i168), (170, i170), (171, i171), (172, i172), (173, i173), (174, i174), (175, i175), (176, i176), (177, i177), (178, i178), (179, i179), (180, i180), (181, i181), (182, i182), (183, i183), (184, i184)]
def T : Tab := tabOf L
theorem ok : TOk Try.prog T := tabOk (by kernel_rfl)
theorem t1 : T 1 = some { k := .func, size := 1, bytes := 8, zero := [.nilFunc] } := rfl
theorem t2 : T 2 = some { k := .int .i64, size := 1, bytes := 8, zero := [.int .i64 0] } := rfl
theorem t3 : T 3 = some { k := .int .i64, size := 1, bytes := 8, zero := [.int .i64 0] } := rfl
theorem t4 : T 4 = some { k := .bool, size := 1, bytes := 1, zero := [.bool false] } := rfl
theorem t5 : T 5 = some { k := .int .u8, size := 1, bytes := 1, zero := [.int .u8 0] } := rfl
theorem t6 : T 6 = some { k := .int .u8, size := 1, bytes := 1, zero := [.int .u8 0] } := rfl
theorem t7 : T 7 = some { k := .struct [(0, 2), (1, 3), (2, 4), (3, 6)], size := 4, bytes := 24, zero := [.int .i64 0, .int .i64 0, .bool false, .int .u8 0], eq := true } := rfl
theorem t8 : T 8 = some { k := .struct [(0, 2), (1, 3), (2, 4), (3, 6)], size := 4, bytes := 24, zero := [.int .i64 0, .int .i64 0, .bool false, .int .u8 0], eq := true } := rfl
theorem t9 : T 9 = some { k := .str, size := 1, bytes := 16, zero := [.string ⟨#[]⟩] } := rfl
theorem t10 : T 10 = some { k := .str, size := 1, bytes := 16, zero := [.string ⟨#[]⟩] } := rfl
theorem t11 : T 11 = some { k := .str, size := 1, bytes := 16, zero := [.string ⟨#[]⟩] } := rfl
theorem t12 : T 12 = some { k := .int .u64, size := 1, bytes := 8, zero := [.int .u64 0] } := rfl
theorem t13 : T 13 = some { k := .struct [(0, 9), (1, 12)], size := 2, bytes := 24, zero := [.string ⟨#[]⟩, .int .u64 0] } := rfl
theorem t14 : T 14 = some { k := .struct [(0, 9), (1, 12)], size := 2, bytes := 24, zero := [.string ⟨#[]⟩, .int .u64 0] } := rfl
theorem t15 : T 15 = some { k := .ptr 173, size := 1, bytes := 8, zero := [.pointer none] } := rfl
theorem t16 : T 16 = some { k := .ptr 176, size := 1, bytes := 8, zero := [.pointer none] } := rfl
theorem t17 : T 17 = some { k := .ptr 184, size := 1, bytes := 8, zero := [.pointer none] } := rfl
theorem t18 : T 18 = some { k := .struct [(0, 17)], size := 1, bytes := 8, zero := [.pointer none] } := rfl
theorem t19 : T 19 = some { k := .struct [(0, 17)], size := 1, bytes := 8, zero := [.pointer none] } := rfl
theorem t21 : T 21 = some { k := .int .i32, size := 1, bytes := 4, zero := [.int .i32 0] } := rfl
theorem t22 : T 22 = some { k := .ptr 92, size := 1, bytes := 8, zero := [.pointer none] } := rfl
theorem t23 : T 23 = some { k := .int .i64, size := 1, bytes := 8, zero := [.int .i64 0] } := rfl
theorem t25 : T 25 = some { k := .func, size := 1, bytes := 8, zero := [.nilFunc] } := rfl
theorem t26 : T 26 = some { k := .func, size := 1, bytes := 8, zero := [.nilFunc] } := rfl
theorem t27 : T 27 = some { k := .struct [(0, 2), (1, 3), (2, 2)], size := 3, bytes := 24, zero := [.int .i64 0, .int .i64 0, .int .i64 0], eq := true } := rfl
theorem t28 : T 28 = some { k := .struct [(0, 2), (1, 3), (2, 2)], size := 3, bytes := 24, zero := [.int .i64 0, .int .i64 0, .int .i64 0], eq := true } := rfl
theorem t30 : T 30 = some { k := .func, size := 1, bytes := 8, zero := [.nilFunc] } := rfl
theorem t32 : T 32 = some { k := .func, size := 1, bytes := 8, zero := [.nilFunc] } := rfl
theorem t33 : T 33 = some { k := .func, size := 1, bytes := 8, zero := [.nilFunc] } := rfl
theorem t34 : T 34 = some { k := .func, size := 1, bytes := 8, zero := [.nilFunc] } := rfl
theorem t35 : T 35 = some { k := .func, size := 1, bytes := 8, zero := [.nilFunc] } := rfl
theorem t36 : T 36 = some { k := .slice 97, size := 1, bytes := 24, zero := [.slice none 0 0] } := rfl
theorem t37 : T 37 = some { k := .slice 97, size := 1, bytes := 24, zero := [.slice none 0 0] } := rfl
theorem t38 : T 38 = some { k := .func, size := 1, bytes := 8, zero := [.nilFunc] } := rfl
theorem t39 : T 39 = some { k := .slice 37, size := 1, bytes := 24, zero := [.slice none 0 0] } := rfl
theorem t41 : T 41 = some { k := .func, size := 1, bytes := 8, zero := [.nilFunc] } := rfl
theorem t42 : T 42 = some { k := .func, size := 1, bytes := 8, zero := [.nilFunc] } := rfl
theorem t43 : T 43 = some { k := .func, size := 1, bytes := 8, zero := [.nilFunc] } := rfl
theorem t44 : T 44 = some { k := .func, size := 1, bytes := 8, zero := [.nilFunc] } := rfl
theorem t45 : T 45 = some { k := .slice 2, size := 1, bytes := 24, zero := [.slice none 0 0] } := rfl
theorem t46 : T 46 = some { k := .int .u32, size := 1, bytes := 4, zero := [.int .u32 0] } := rfl
theorem t48 : T 48 = some { k := .func, size := 1, bytes := 8, zero := [.nilFunc] } := rfl
theorem t49 : T 49 = some { k := .func, size := 1, bytes := 8, zero := [.nilFunc] } := rfl
theorem t50 : T 50 = some { k := .slice 5, size := 1, bytes := 24, zero := [.slice none 0 0] } := rfl
theorem t51 : T 51 = some { k := .func, size := 1, bytes := 8, zero := [.nilFunc] } := rfl
theorem t52 : T 52 = some { k := .func, size := 1, bytes := 8, zero := [.nilFunc] } := rfl
theorem t54 : T 54 = some { k := .func, size := 1, bytes := 8, zero := [.nilFunc] } := rfl
theorem t55 : T 55 = some { k := .func, size := 1, bytes := 8, zero := [.nilFunc] } := rfl
theorem t56 : T 56 = some { k := .func, size := 1, bytes := 8, zero := [.nilFunc] } := rfl
theorem t57 : T 57 = some { k := .func, size := 1, bytes := 8, zero := [.nilFunc] } := rfl
theorem t58 : T 58 = some { k := .func, size := 1, bytes := 8, zero := [.nilFunc] } := rfl
theorem t59 : T 59 = some { k := .func, size := 1, bytes := 8, zero := [.nilFunc] } := rfl
theorem t60 : T 60 = some { k := .func, size := 1, bytes := 8, zero := [.nilFunc] } := rfl
theorem t62 : T 62 = some { k := .func, size := 1, bytes := 8, zero := [.nilFunc] } := rfl
theorem t64 : T 64 = some { k := .func, size := 1, bytes := 8, zero := [.nilFunc] } := rfl
theorem t65 : T 65 = some { k := .func, size := 1, bytes := 8, zero := [.nilFunc] } := rfl
theorem t66 : T 66 = some { k := .func, size := 1, bytes := 8, zero := [.nilFunc] } := rfl
theorem t67 : T 67 = some { k := .func, size := 1, bytes := 8, zero := [.nilFunc] } := rfl
theorem t68 : T 68 = some { k := .func, size := 1, bytes := 8, zero := [.nilFunc] } := rfl
theorem t69 : T 69 = some { k := .slice 72, size := 1, bytes := 24, zero := [.slice none 0 0] } := rfl
theorem t70 : T 70 = some { k := .map 3 28, size := 1, bytes := 8, zero := [.map none] } := rfl
theorem t71 : T 71 = some { k := .struct [(0, 5), (1, 2), (2, 2)], size := 3, bytes := 24, zero := [.int .u8 0, .int .i64 0, .int .i64 0], eq := true } := rfl
theorem t72 : T 72 = some { k := .struct [(0, 5), (1, 2), (2, 2)], size := 3, bytes := 24, zero := [.int .u8 0, .int .i64 0, .int .i64 0], eq := true } := rfl
theorem t73 : T 73 = some { k := .func, size := 1, bytes := 8, zero := [.nilFunc] } := rfl
theorem t74 : T 74 = some { k := .slice 28, size := 1, bytes := 24, zero := [.slice none 0 0] } := rfl
theorem t75 : T 75 = some { k := .func, size := 1, bytes := 8, zero := [.nilFunc] } := rfl
theorem t76 : T 76 = some { k := .func, size := 1, bytes := 8, zero := [.nilFunc] } := rfl
theorem t77 : T 77 = some { k := .func, size := 1, bytes := 8, zero := [.nilFunc] } := rfl
theorem t78 : T 78 = some { k := .ptr 126, size := 1, bytes := 8, zero := [.pointer none] } := rfl
theorem t80 : T 80 = some { k := .func, size := 1, bytes := 8, zero := [.nilFunc] } := rfl
theorem t81 : T 81 = some { k := .func, size := 1, bytes := 8, zero := [.nilFunc] } := rfl
theorem t82 : T 82 = some { k := .func, size := 1, bytes := 8, zero := [.nilFunc] } := rfl
theorem t84 : T 84 = some { k := .func, size := 1, bytes := 8, zero := [.nilFunc] } := rfl
theorem t85 : T 85 = some { k := .func, size := 1, bytes := 8, zero := [.nilFunc] } := rfl
theorem t86 : T 86 = some { k := .func, size := 1, bytes := 8, zero := [.nilFunc] } := rfl
theorem t87 : T 87 = some { k := .func, size := 1, bytes := 8, zero := [.nilFunc] } := rfl
theorem t88 : T 88 = some { k := .struct [(0, 2)], size := 1, bytes := 8, zero := [.int .i64 0], eq := true } := rfl
theorem t89 : T 89 = some { k := .struct [(0, 2)], size := 1, bytes := 8, zero := [.int .i64 0], eq := true } := rfl
theorem t90 : T 90 = some { k := .slice 28, size := 1, bytes := 24, zero := [.slice none 0 0] } := rfl
theorem t91 : T 91 = some { k := .struct [(0, 89), (1, 90), (2, 3), (3, 3)], size := 4, bytes := 48, zero := [.int .i64 0, .slice none 0 0, .int .i64 0, .int .i64 0] } := rfl
theorem t92 : T 92 = some { k := .struct [(0, 89), (1, 90), (2, 3), (3, 3)], size := 4, bytes := 48, zero := [.int .i64 0, .slice none 0 0, .int .i64 0, .int .i64 0] } := rfl
theorem t93 : T 93 = some { k := .func, size := 1, bytes := 8, zero := [.nilFunc] } := rfl
theorem t94 : T 94 = some { k := .func, size := 1, bytes := 8, zero := [.nilFunc] } := rfl
theorem t95 : T 95 = some { k := .arr 12 5, size := 12, bytes := 12, zero := List.replicate 12 (.int .u8 0), eq := true } := rfl
theorem t96 : T 96 = some { k := .struct [(0, 95), (12, 2)], size := 13, bytes := 24, zero := [.int .u8 0, .int .u8 0, .int .u8 0, .int .u8 0, .int .u8 0, .int .u8 0, .int .u8 0, .int .u8 0, .int .u8 0, .int .u8 0, .int .u8 0, .int .u8 0, .int .i64 0], eq := true } := rfl
theorem t97 : T 97 = some { k := .struct [(0, 95), (12, 2)], size := 13, bytes := 24, zero := [.int .u8 0, .int .u8 0, .int .u8 0, .int .u8 0, .int .u8 0, .int .u8 0, .int .u8 0, .int .u8 0, .int .u8 0, .int .u8 0, .int .u8 0, .int .u8 0, .int .i64 0], eq := true } := rfl
theorem t98 : T 98 = some { k := .func, size := 1, bytes := 8, zero := [.nilFunc] } := rfl
theorem t99 : T 99 = some { k := .func, size := 1, bytes := 8, zero := [.nilFunc] } := rfl
theorem t100 : T 100 = some { k := .func, size := 1, bytes := 8, zero := [.nilFunc] } := rfl
theorem t101 : T 101 = some { k := .func, size := 1, bytes := 8, zero := [.nilFunc] } := rfl
theorem t103 : T 103 = some { k := .func, size := 1, bytes := 8, zero := [.nilFunc] } := rfl
theorem t104 : T 104 = some { k := .func, size := 1, bytes := 8, zero := [.nilFunc] } := rfl
theorem t106 : T 106 = some { k := .func, size := 1, bytes := 8, zero := [.nilFunc] } := rfl
theorem t107 : T 107 = some { k := .func, size := 1, bytes := 8, zero := [.nilFunc] } := rfl
theorem t108 : T 108 = some { k := .func, size := 1, bytes := 8, zero := [.nilFunc] } := rfl
theorem t109 : T 109 = some { k := .func, size := 1, bytes := 8, zero := [.nilFunc] } := rfl
theorem t110 : T 110 = some { k := .func, size := 1, bytes := 8, zero := [.nilFunc] } := rfl
theorem t111 : T 111 = some { k := .func, size := 1, bytes := 8, zero := [.nilFunc] } := rfl
theorem t112 : T 112 = some { k := .arr 12 5, size := 12, bytes := 12, zero := List.replicate 12 (.int .u8 0), eq := true } := rfl
theorem t113 : T 113 = some { k := .func, size := 1, bytes := 8, zero := [.nilFunc] } := rfl
theorem t114 : T 114 = some { k := .func, size := 1, bytes := 8, zero := [.nilFunc] } := rfl
theorem t115 : T 115 = some { k := .func, size := 1, bytes := 8, zero := [.nilFunc] } := rfl
theorem t116 : T 116 = some { k := .func, size := 1, bytes := 8, zero := [.nilFunc] } := rfl
theorem t117 : T 117 = some { k := .func, size := 1, bytes := 8, zero := [.nilFunc] } := rfl
theorem t118 : T 118 = some { k := .func, size := 1, bytes := 8, zero := [.nilFunc] } := rfl
theorem t119 : T 119 = some { k := .func, size := 1, bytes := 8, zero := [.nilFunc] } := rfl
theorem t120 : T 120 = some { k := .func, size := 1, bytes := 8, zero := [.nilFunc] } := rfl
theorem t121 : T 121 = some { k := .func, size := 1, bytes := 8, zero := [.nilFunc] } := rfl
theorem t122 : T 122 = some { k := .map 3 4, size := 1, bytes := 8, zero := [.map none] } := rfl
theorem t123 : T 123 = some { k := .func, size := 1, bytes := 8, zero := [.nilFunc] } := rfl
theorem t124 : T 124 = some { k := .func, size := 1, bytes := 8, zero := [.nilFunc] } := rfl
theorem t125 : T 125 = some { k := .struct [(0, 74), (1, 3), (2, 2), (3, 3)], size := 4, bytes := 48, zero := [.slice none 0 0, .int .i64 0, .int .i64 0, .int .i64 0] } := rfl
theorem t126 : T 126 = some { k := .struct [(0, 74), (1, 3), (2, 2), (3, 3)], size := 4, bytes := 48, zero := [.slice none 0 0, .int .i64 0, .int .i64 0, .int .i64 0] } := rfl
theorem t127 : T 127 = some { k := .func, size := 1, bytes := 8, zero := [.nilFunc] } := rfl
theorem t128 : T 128 = some { k := .func, size := 1, bytes := 8, zero := [.nilFunc] } := rfl
theorem t129 : T 129 = some { k := .func, size := 1, bytes := 8, zero := [.nilFunc] } := rfl
theorem t130 : T 130 = some { k := .func, size := 1, bytes := 8, zero := [.nilFunc] } := rfl
theorem t131 : T 131 = some { k := .func, size := 1, bytes := 8, zero := [.nilFunc] } := rfl
theorem t132 : T 132 = some { k := .func, size := 1, bytes := 8, zero := [.nilFunc] } := rfl
theorem t133 : T 133 = some { k := .func, size := 1, bytes := 8, zero := [.nilFunc] } := rfl
theorem t134 : T 134 = some { k := .func, size := 1, bytes := 8, zero := [.nilFunc] } := rfl
theorem t135 : T 135 = some { k := .func, size := 1, bytes := 8, zero := [.nilFunc] } := rfl
theorem t136 : T 136 = some { k := .func, size := 1, bytes := 8, zero := [.nilFunc] } := rfl
theorem t137 : T 137 = some { k := .func, size := 1, bytes := 8, zero := [.nilFunc] } := rfl
theorem t138 : T 138 = some { k := .func, size := 1, bytes := 8, zero := [.nilFunc] } := rfl
theorem t139 : T 139 = some { k := .func, size := 1, bytes := 8, zero := [.nilFunc] } := rfl
theorem t140 : T 140 = some { k := .func, size := 1, bytes := 8, zero := [.nilFunc] } := rfl
theorem t141 : T 141 = some { k := .func, size := 1, bytes := 8, zero := [.nilFunc] } := rfl
theorem t142 : T 142 = some { k := .func, size := 1, bytes := 8, zero := [.nilFunc] } := rfl
theorem t143 : T 143 = some { k := .func, size := 1, bytes := 8, zero := [.nilFunc] } := rfl
theorem t144 : T 144 = some { k := .func, size := 1, bytes := 8, zero := [.nilFunc] } := rfl
theorem t145 : T 145 = some { k := .func, size := 1, bytes := 8, zero := [.nilFunc] } := rfl
theorem t146 : T 146 = some { k := .func, size := 1, bytes := 8, zero := [.nilFunc] } := rfl
theorem t147 : T 147 = some { k := .int .u64, size := 1, bytes := 8, zero := [.int .u64 0] } := rfl
theorem t148 : T 148 = some { k := .slice 3, size := 1, bytes := 24, zero := [.slice none 0 0] } := rfl
theorem t149 : T 149 = some { k := .func, size := 1, bytes := 8, zero := [.nilFunc] } := rfl
theorem t150 : T 150 = some { k := .func, size := 1, bytes := 8, zero := [.nilFunc] } := rfl
theorem t151 : T 151 = some { k := .func, size := 1, bytes := 8, zero := [.nilFunc] } := rfl
theorem t152 : T 152 = some { k := .int .i64, size := 1, bytes := 8, zero := [.int .i64 0] } := rfl
theorem t154 : T 154 = some { k := .func, size := 1, bytes := 8, zero := [.nilFunc] } := rfl
theorem t155 : T 155 = some { k := .func, size := 1, bytes := 8, zero := [.nilFunc] } := rfl
theorem t156 : T 156 = some { k := .func, size := 1, bytes := 8, zero := [.nilFunc] } := rfl
theorem t158 : T 158 = some { k := .func, size := 1, bytes := 8, zero := [.nilFunc] } := rfl
theorem t159 : T 159 = some { k := .func, size := 1, bytes := 8, zero := [.nilFunc] } := rfl
theorem t160 : T 160 = some { k := .func, size := 1, bytes := 8, zero := [.nilFunc] } := rfl
theorem t161 : T 161 = some { k := .int .u64, size := 1, bytes := 8, zero := [.int .u64 0] } := rfl
theorem t162 : T 162 = some { k := .int .u64, size := 1, bytes := 8, zero := [.int .u64 0] } := rfl
theorem t163 : T 163 = some { k := .func, size := 1, bytes := 8, zero := [.nilFunc] } := rfl
theorem t164 : T 164 = some { k := .func, size := 1, bytes := 8, zero := [.nilFunc] } := rfl
theorem t165 : T 165 = some { k := .func, size := 1, bytes := 8, zero := [.nilFunc] } := rfl
theorem t166 : T 166 = some { k := .ptr 3, size := 1, bytes := 8, zero := [.pointer none] } := rfl
theorem t167 : T 167 = some { k := .func, size := 1, bytes := 8, zero := [.nilFunc] } := rfl
theorem t168 : T 168 = some { k := .ptr 162, size := 1, bytes := 8, zero := [.pointer none] } := rfl
theorem t170 : T 170 = some { k := .func, size := 1, bytes := 8, zero := [.nilFunc] } := rfl
theorem t171 : T 171 = some { k := .func, size := 1, bytes := 8, zero := [.nilFunc] } := rfl
theorem t172 : T 172 = some { k := .struct [(0, 17), (1, 17), (2, 17), (3, 9)], size := 4, bytes := 40, zero := [.pointer none, .pointer none, .pointer none, .string ⟨#[]⟩] } := rfl
theorem t173 : T 173 = some { k := .struct [(0, 17), (1, 17), (2, 17), (3, 9)], size := 4, bytes := 40, zero := [.pointer none, .pointer none, .pointer none, .string ⟨#[]⟩] } := rfl
theorem t174 : T 174 = some { k := .arr 0 16, size := 0, bytes := 0, zero := [] } := rfl
theorem t175 : T 175 = some { k := .struct [(0, 174)], size := 0, bytes := 0, zero := [] } := rfl
theorem t176 : T 176 = some { k := .struct [(0, 174)], size := 0, bytes := 0, zero := [] } := rfl
theorem t177 : T 177 = some { k := .int .u8, size := 1, bytes := 1, zero := [.int .u8 0] } := rfl
theorem t178 : T 178 = some { k := .int .u8, size := 1, bytes := 1, zero := [.int .u8 0] } := rfl
theorem t179 : T 179 = some { k := .func, size := 1, bytes := 8, zero := [.nilFunc] } := rfl
theorem t180 : T 180 = some { k := .ptr 5, size := 1, bytes := 8, zero := [.pointer none] } := rfl
theorem t181 : T 181 = some { k := .int .i32, size := 1, bytes := 4, zero := [.int .i32 0] } := rfl
theorem t182 : T 182 = some { k := .int .i32, size := 1, bytes := 4, zero := [.int .i32 0] } := rfl
theorem t183 : T 183 = some { k := .struct [(0, 12), (1, 12), (2, 46), (3, 177), (4, 5), (5, 5), (6, 178), (7, 179), (8, 180), (9, 181), (10, 182)], size := 11, bytes := 48, zero := [.int .u64 0, .int .u64 0, .int .u32 0, .int .u8 0, .int .u8 0, .int .u8 0, .int .u8 0, .nilFunc, .pointer none, .int .i32 0, .int .i32 0] } := rfl
theorem t184 : T 184 = some { k := .struct [(0, 12), (1, 12), (2, 46), (3, 177), (4, 5), (5, 5), (6, 178), (7, 179), (8, 180), (9, 181), (10, 182)], size := 11, bytes := 48, zero := [.int .u64 0, .int .u64 0, .int .u32 0, .int .u8 0, .int .u8 0, .int .u8 0, .int .u8 0, .nilFunc, .pointer none, .int .i32 0, .int .i32 0] } := rfl
end Go.Proofs.Ytfbkgjmpadknfaa.T
