/-
  The types of the program, as the evaluator wants them.
-/
import Derived.Test.YtcdafogfmijcpaaProg
import Derived.Test.YtcdafogfmijcpaaAh14
namespace Go.Proofs.Ytcdafogfmijcpaa.T
open Go.Proofs.YtcdafogfmijcpaaW.Ah
abbrev i1 : TI := { k := .func, size := 1, bytes := 8, zero := [.nilFunc] }
abbrev i2 : TI := { k := .int .i64, size := 1, bytes := 8, zero := [.int .i64 0] }
abbrev i3 : TI := { k := .int .i64, size := 1, bytes := 8, zero := [.int .i64 0] }
abbrev i4 : TI := { k := .bool, size := 1, bytes := 1, zero := [.bool false] }
abbrev i5 : TI := { k := .int .u8, size := 1, bytes := 1, zero := [.int .u8 0] }
abbrev i6 : TI := { k := .int .u8, size := 1, bytes := 1, zero := [.int .u8 0] }
abbrev i7 : TI := { k := .struct [(0, 2), (1, 3), (2, 4), (3, 6)], size := 4, bytes := 24, zero := [.int .i64 0, .int .i64 0, .bool false, .int .u8 0], eq := true }
abbrev i8 : TI := { k := .struct [(0, 2), (1, 3), (2, 4), (3, 6)], size := 4, bytes := 24, zero := [.int .i64 0, .int .i64 0, .bool false, .int .u8 0], eq := true }
abbrev i9 : TI := { k := .str, size := 1, bytes := 16, zero := [.string ⟨#[]⟩] }
abbrev i10 : TI := { k := .str, size := 1, bytes := 16, zero := [.string ⟨#[]⟩] }
abbrev i11 : TI := { k := .str, size := 1, bytes := 16, zero := [.string ⟨#[]⟩] }
abbrev i12 : TI := { k := .int .u64, size := 1, bytes := 8, zero := [.int .u64 0] }
abbrev i13 : TI := { k := .struct [(0, 9), (1, 12)], size := 2, bytes := 24, zero := [.string ⟨#[]⟩, .int .u64 0] }
abbrev i14 : TI := { k := .struct [(0, 9), (1, 12)], size := 2, bytes := 24, zero := [.string ⟨#[]⟩, .int .u64 0] }
abbrev i15 : TI := { k := .ptr 112, size := 1, bytes := 8, zero := [.pointer none] }
abbrev i16 : TI := { k := .ptr 115, size := 1, bytes := 8, zero := [.pointer none] }
abbrev i17 : TI := { k := .ptr 125, size := 1, bytes := 8, zero := [.pointer none] }
abbrev i18 : TI := { k := .struct [(0, 17)], size := 1, bytes := 8, zero := [.pointer none] }
abbrev i19 : TI := { k := .struct [(0, 17)], size := 1, bytes := 8, zero := [.pointer none] }
abbrev i21 : TI := { k := .int .i32, size := 1, bytes := 4, zero := [.int .i32 0] }
abbrev i22 : TI := { k := .slice 41, size := 1, bytes := 24, zero := [.slice none 0 0] }
abbrev i23 : TI := { k := .slice 51, size := 1, bytes := 24, zero := [.slice none 0 0] }
abbrev i24 : TI := { k := .slice 47, size := 1, bytes := 24, zero := [.slice none 0 0] }
abbrev i25 : TI := { k := .struct [(0, 22), (1, 23), (2, 24)], size := 3, bytes := 72, zero := [.slice none 0 0, .slice none 0 0, .slice none 0 0] }
abbrev i26 : TI := { k := .struct [(0, 22), (1, 23), (2, 24)], size := 3, bytes := 72, zero := [.slice none 0 0, .slice none 0 0, .slice none 0 0] }
abbrev i27 : TI := { k := .func, size := 1, bytes := 8, zero := [.nilFunc] }
abbrev i28 : TI := { k := .func, size := 1, bytes := 8, zero := [.nilFunc] }
abbrev i29 : TI := { k := .slice 36, size := 1, bytes := 24, zero := [.slice none 0 0] }
abbrev i30 : TI := { k := .int .i64, size := 1, bytes := 8, zero := [.int .i64 0] }
abbrev i32 : TI := { k := .func, size := 1, bytes := 8, zero := [.nilFunc] }
abbrev i34 : TI := { k := .func, size := 1, bytes := 8, zero := [.nilFunc] }
abbrev i35 : TI := { k := .func, size := 1, bytes := 8, zero := [.nilFunc] }
abbrev i36 : TI := { k := .slice 42, size := 1, bytes := 24, zero := [.slice none 0 0] }
abbrev i37 : TI := { k := .func, size := 1, bytes := 8, zero := [.nilFunc] }
abbrev i38 : TI := { k := .func, size := 1, bytes := 8, zero := [.nilFunc] }
abbrev i39 : TI := { k := .slice 44, size := 1, bytes := 24, zero := [.slice none 0 0] }
abbrev i40 : TI := { k := .struct [(0, 9), (1, 3), (2, 3), (3, 39)], size := 4, bytes := 56, zero := [.string ⟨#[]⟩, .int .i64 0, .int .i64 0, .slice none 0 0] }
abbrev i41 : TI := { k := .struct [(0, 9), (1, 3), (2, 3), (3, 39)], size := 4, bytes := 56, zero := [.string ⟨#[]⟩, .int .i64 0, .int .i64 0, .slice none 0 0] }
abbrev i42 : TI := { k := .slice 4, size := 1, bytes := 24, zero := [.slice none 0 0] }
abbrev i43 : TI := { k := .struct [(0, 3), (1, 3), (2, 3), (3, 3)], size := 4, bytes := 32, zero := [.int .i64 0, .int .i64 0, .int .i64 0, .int .i64 0], eq := true }
abbrev i44 : TI := { k := .struct [(0, 3), (1, 3), (2, 3), (3, 3)], size := 4, bytes := 32, zero := [.int .i64 0, .int .i64 0, .int .i64 0, .int .i64 0], eq := true }
abbrev i46 : TI := { k := .func, size := 1, bytes := 8, zero := [.nilFunc] }
abbrev i47 : TI := { k := .slice 3, size := 1, bytes := 24, zero := [.slice none 0 0] }
abbrev i49 : TI := { k := .func, size := 1, bytes := 8, zero := [.nilFunc] }
abbrev i50 : TI := { k := .func, size := 1, bytes := 8, zero := [.nilFunc] }
abbrev i51 : TI := { k := .slice 5, size := 1, bytes := 24, zero := [.slice none 0 0] }
abbrev i52 : TI := { k := .func, size := 1, bytes := 8, zero := [.nilFunc] }
abbrev i53 : TI := { k := .ptr 55, size := 1, bytes := 8, zero := [.pointer none] }
abbrev i54 : TI := { k := .struct [(0, 26), (3, 41), (7, 36), (8, 42), (9, 47), (10, 4)], size := 11, bytes := 208, zero := [.slice none 0 0, .slice none 0 0, .slice none 0 0, .string ⟨#[]⟩, .int .i64 0, .int .i64 0, .slice none 0 0, .slice none 0 0, .slice none 0 0, .slice none 0 0, .bool false] }
abbrev i55 : TI := { k := .struct [(0, 26), (3, 41), (7, 36), (8, 42), (9, 47), (10, 4)], size := 11, bytes := 208, zero := [.slice none 0 0, .slice none 0 0, .slice none 0 0, .string ⟨#[]⟩, .int .i64 0, .int .i64 0, .slice none 0 0, .slice none 0 0, .slice none 0 0, .slice none 0 0, .bool false], ex := true }
abbrev i57 : TI := { k := .func, size := 1, bytes := 8, zero := [.nilFunc] }
abbrev i58 : TI := { k := .func, size := 1, bytes := 8, zero := [.nilFunc] }
abbrev i59 : TI := { k := .func, size := 1, bytes := 8, zero := [.nilFunc] }
abbrev i60 : TI := { k := .slice 62, size := 1, bytes := 24, zero := [.slice none 0 0] }
abbrev i61 : TI := { k := .struct [(0, 3), (1, 9), (2, 60)], size := 3, bytes := 48, zero := [.int .i64 0, .string ⟨#[]⟩, .slice none 0 0] }
abbrev i62 : TI := { k := .struct [(0, 3), (1, 9), (2, 60)], size := 3, bytes := 48, zero := [.int .i64 0, .string ⟨#[]⟩, .slice none 0 0] }
abbrev i64 : TI := { k := .func, size := 1, bytes := 8, zero := [.nilFunc] }
abbrev i65 : TI := { k := .func, size := 1, bytes := 8, zero := [.nilFunc] }
abbrev i66 : TI := { k := .func, size := 1, bytes := 8, zero := [.nilFunc] }
abbrev i67 : TI := { k := .func, size := 1, bytes := 8, zero := [.nilFunc] }
abbrev i68 : TI := { k := .func, size := 1, bytes := 8, zero := [.nilFunc] }
abbrev i69 : TI := { k := .func, size := 1, bytes := 8, zero := [.nilFunc] }
abbrev i70 : TI := { k := .func, size := 1, bytes := 8, zero := [.nilFunc] }
abbrev i71 : TI := { k := .func, size := 1, bytes := 8, zero := [.nilFunc] }
abbrev i72 : TI := { k := .func, size := 1, bytes := 8, zero := [.nilFunc] }
abbrev i73 : TI := { k := .ptr 75, size := 1, bytes := 8, zero := [.pointer none] }
abbrev i74 : TI := { k := .struct [(0, 26), (3, 41), (7, 36), (8, 42), (9, 4), (10, 4)], size := 11, bytes := 184, zero := [.slice none 0 0, .slice none 0 0, .slice none 0 0, .string ⟨#[]⟩, .int .i64 0, .int .i64 0, .slice none 0 0, .slice none 0 0, .slice none 0 0, .bool false, .bool false] }
abbrev i75 : TI := { k := .struct [(0, 26), (3, 41), (7, 36), (8, 42), (9, 4), (10, 4)], size := 11, bytes := 184, zero := [.slice none 0 0, .slice none 0 0, .slice none 0 0, .string ⟨#[]⟩, .int .i64 0, .int .i64 0, .slice none 0 0, .slice none 0 0, .slice none 0 0, .bool false, .bool false] }
abbrev i76 : TI := { k := .func, size := 1, bytes := 8, zero := [.nilFunc] }
abbrev i77 : TI := { k := .func, size := 1, bytes := 8, zero := [.nilFunc] }
abbrev i78 : TI := { k := .func, size := 1, bytes := 8, zero := [.nilFunc] }
abbrev i79 : TI := { k := .func, size := 1, bytes := 8, zero := [.nilFunc] }
abbrev i80 : TI := { k := .func, size := 1, bytes := 8, zero := [.nilFunc] }
abbrev i81 : TI := { k := .func, size := 1, bytes := 8, zero := [.nilFunc] }
abbrev i82 : TI := { k := .func, size := 1, bytes := 8, zero := [.nilFunc] }
abbrev i83 : TI := { k := .func, size := 1, bytes := 8, zero := [.nilFunc] }
abbrev i84 : TI := { k := .func, size := 1, bytes := 8, zero := [.nilFunc] }
abbrev i85 : TI := { k := .func, size := 1, bytes := 8, zero := [.nilFunc] }
abbrev i86 : TI := { k := .func, size := 1, bytes := 8, zero := [.nilFunc] }
abbrev i87 : TI := { k := .func, size := 1, bytes := 8, zero := [.nilFunc] }
abbrev i88 : TI := { k := .func, size := 1, bytes := 8, zero := [.nilFunc] }
abbrev i89 : TI := { k := .func, size := 1, bytes := 8, zero := [.nilFunc] }
abbrev i90 : TI := { k := .func, size := 1, bytes := 8, zero := [.nilFunc] }
abbrev i91 : TI := { k := .struct [(0, 3), (1, 3)], size := 2, bytes := 16, zero := [.int .i64 0, .int .i64 0], eq := true }
abbrev i92 : TI := { k := .struct [(0, 3), (1, 3)], size := 2, bytes := 16, zero := [.int .i64 0, .int .i64 0], eq := true }
abbrev i93 : TI := { k := .arr 3 92, size := 6, bytes := 48, zero := [.int .i64 0, .int .i64 0, .int .i64 0, .int .i64 0, .int .i64 0, .int .i64 0], eq := true }
abbrev i94 : TI := { k := .struct [(0, 9), (1, 93), (7, 3), (8, 3), (9, 3), (10, 4)], size := 11, bytes := 96, zero := [.string ⟨#[]⟩, .int .i64 0, .int .i64 0, .int .i64 0, .int .i64 0, .int .i64 0, .int .i64 0, .int .i64 0, .int .i64 0, .int .i64 0, .bool false], eq := true }
abbrev i95 : TI := { k := .struct [(0, 9), (1, 93), (7, 3), (8, 3), (9, 3), (10, 4)], size := 11, bytes := 96, zero := [.string ⟨#[]⟩, .int .i64 0, .int .i64 0, .int .i64 0, .int .i64 0, .int .i64 0, .int .i64 0, .int .i64 0, .int .i64 0, .int .i64 0, .bool false], eq := true }
abbrev i97 : TI := { k := .func, size := 1, bytes := 8, zero := [.nilFunc] }
abbrev i98 : TI := { k := .func, size := 1, bytes := 8, zero := [.nilFunc] }
abbrev i99 : TI := { k := .func, size := 1, bytes := 8, zero := [.nilFunc] }
abbrev i100 : TI := { k := .func, size := 1, bytes := 8, zero := [.nilFunc] }
abbrev i101 : TI := { k := .func, size := 1, bytes := 8, zero := [.nilFunc] }
abbrev i102 : TI := { k := .func, size := 1, bytes := 8, zero := [.nilFunc] }
abbrev i103 : TI := { k := .func, size := 1, bytes := 8, zero := [.nilFunc] }
abbrev i104 : TI := { k := .arr 16 95, size := 176, bytes := 1536, zero := [.string ⟨#[]⟩, .int .i64 0, .int .i64 0, .int .i64 0, .int .i64 0, .int .i64 0, .int .i64 0, .int .i64 0, .int .i64 0, .int .i64 0, .bool false, .string ⟨#[]⟩, .int .i64 0, .int .i64 0, .int .i64 0, .int .i64 0, .int .i64 0, .int .i64 0, .int .i64 0, .int .i64 0, .int .i64 0, .bool false, .string ⟨#[]⟩, .int .i64 0, .int .i64 0, .int .i64 0, .int .i64 0, .int .i64 0, .int .i64 0, .int .i64 0, .int .i64 0, .int .i64 0, .bool false, .string ⟨#[]⟩, .int .i64 0, .int .i64 0, .int .i64 0, .int .i64 0, .int .i64 0, .int .i64 0, .int .i64 0, .int .i64 0, .int .i64 0, .bool false, .string ⟨#[]⟩, .int .i64 0, .int .i64 0, .int .i64 0, .int .i64 0, .int .i64 0, .int .i64 0, .int .i64 0, .int .i64 0, .int .i64 0, .bool false, .string ⟨#[]⟩, .int .i64 0, .int .i64 0, .int .i64 0, .int .i64 0, .int .i64 0, .int .i64 0, .int .i64 0, .int .i64 0, .int .i64 0, .bool false, .string ⟨#[]⟩, .int .i64 0, .int .i64 0, .int .i64 0, .int .i64 0, .int .i64 0, .int .i64 0, .int .i64 0, .int .i64 0, .int .i64 0, .bool false, .string ⟨#[]⟩, .int .i64 0, .int .i64 0, .int .i64 0, .int .i64 0, .int .i64 0, .int .i64 0, .int .i64 0, .int .i64 0, .int .i64 0, .bool false, .string ⟨#[]⟩, .int .i64 0, .int .i64 0, .int .i64 0, .int .i64 0, .int .i64 0, .int .i64 0, .int .i64 0, .int .i64 0, .int .i64 0, .bool false, .string ⟨#[]⟩, .int .i64 0, .int .i64 0, .int .i64 0, .int .i64 0, .int .i64 0, .int .i64 0, .int .i64 0, .int .i64 0, .int .i64 0, .bool false, .string ⟨#[]⟩, .int .i64 0, .int .i64 0, .int .i64 0, .int .i64 0, .int .i64 0, .int .i64 0, .int .i64 0, .int .i64 0, .int .i64 0, .bool false, .string ⟨#[]⟩, .int .i64 0, .int .i64 0, .int .i64 0, .int .i64 0, .int .i64 0, .int .i64 0, .int .i64 0, .int .i64 0, .int .i64 0, .bool false, .string ⟨#[]⟩, .int .i64 0, .int .i64 0, .int .i64 0, .int .i64 0, .int .i64 0, .int .i64 0, .int .i64 0, .int .i64 0, .int .i64 0, .bool false, .string ⟨#[]⟩, .int .i64 0, .int .i64 0, .int .i64 0, .int .i64 0, .int .i64 0, .int .i64 0, .int .i64 0, .int .i64 0, .int .i64 0, .bool false, .string ⟨#[]⟩, .int .i64 0, .int .i64 0, .int .i64 0, .int .i64 0, .int .i64 0, .int .i64 0, .int .i64 0, .int .i64 0, .int .i64 0, .bool false, .string ⟨#[]⟩, .int .i64 0, .int .i64 0, .int .i64 0, .int .i64 0, .int .i64 0, .int .i64 0, .int .i64 0, .int .i64 0, .int .i64 0, .bool false], eq := true }
abbrev i105 : TI := { k := .func, size := 1, bytes := 8, zero := [.nilFunc] }
abbrev i106 : TI := { k := .arr 3 3, size := 3, bytes := 24, zero := [.int .i64 0, .int .i64 0, .int .i64 0], eq := true }
abbrev i107 : TI := { k := .func, size := 1, bytes := 8, zero := [.nilFunc] }
abbrev i108 : TI := { k := .func, size := 1, bytes := 8, zero := [.nilFunc] }
abbrev i109 : TI := { k := .func, size := 1, bytes := 8, zero := [.nilFunc] }
abbrev i110 : TI := { k := .func, size := 1, bytes := 8, zero := [.nilFunc] }
abbrev i111 : TI := { k := .struct [(0, 17), (1, 17), (2, 17), (3, 9)], size := 4, bytes := 40, zero := [.pointer none, .pointer none, .pointer none, .string ⟨#[]⟩] }
abbrev i112 : TI := { k := .struct [(0, 17), (1, 17), (2, 17), (3, 9)], size := 4, bytes := 40, zero := [.pointer none, .pointer none, .pointer none, .string ⟨#[]⟩] }
abbrev i113 : TI := { k := .arr 0 16, size := 0, bytes := 0, zero := [] }
abbrev i114 : TI := { k := .struct [(0, 113)], size := 0, bytes := 0, zero := [] }
abbrev i115 : TI := { k := .struct [(0, 113)], size := 0, bytes := 0, zero := [] }
abbrev i116 : TI := { k := .func, size := 1, bytes := 8, zero := [.nilFunc] }
abbrev i117 : TI := { k := .int .u32, size := 1, bytes := 4, zero := [.int .u32 0] }
abbrev i118 : TI := { k := .int .u8, size := 1, bytes := 1, zero := [.int .u8 0] }
abbrev i119 : TI := { k := .int .u8, size := 1, bytes := 1, zero := [.int .u8 0] }
abbrev i120 : TI := { k := .func, size := 1, bytes := 8, zero := [.nilFunc] }
abbrev i121 : TI := { k := .ptr 5, size := 1, bytes := 8, zero := [.pointer none] }
abbrev i122 : TI := { k := .int .i32, size := 1, bytes := 4, zero := [.int .i32 0] }
abbrev i123 : TI := { k := .int .i32, size := 1, bytes := 4, zero := [.int .i32 0] }
abbrev i124 : TI := { k := .struct [(0, 12), (1, 12), (2, 117), (3, 118), (4, 5), (5, 5), (6, 119), (7, 120), (8, 121), (9, 122), (10, 123)], size := 11, bytes := 48, zero := [.int .u64 0, .int .u64 0, .int .u32 0, .int .u8 0, .int .u8 0, .int .u8 0, .int .u8 0, .nilFunc, .pointer none, .int .i32 0, .int .i32 0] }
abbrev i125 : TI := { k := .struct [(0, 12), (1, 12), (2, 117), (3, 118), (4, 5), (5, 5), (6, 119), (7, 120), (8, 121), (9, 122), (10, 123)], size := 11, bytes := 48, zero := [.int .u64 0, .int .u64 0, .int .u32 0, .int .u8 0, .int .u8 0, .int .u8 0, .int .u8 0, .nilFunc, .pointer none, .int .i32 0, .int .i32 0] }
def L : List (Nat × TI) := [(1, i1), (2, i2), (3, i3), (4, i4), (5, i5), (6, i6), (7, i7), (8, i8), (9, i9), (10, i10), (11, i11), (12, i12), (13, i13), (14, i14), (15, i15), (16, i16), (17, i17), (18, i18), (19, i19), (21, i21), (22, i22), (23, i23), (24, i24), (25, i25), (26, i26), (27, i27), (28, i28), (29, i29), (30, i30), (32, i32), (34, i34), (35, i35), (36, i36), (37, i37), (38, i38), (39, i39), (40, i40), (41, i41), (42, i42), (43, i43), (44, i44), (46, i46), (47, i47), (49, i49), (50, i50), (51, i51), (52, i52), (53, i53), (54, i54), (55, i55), (57, i57), (58, i58), (59, i59), (60, i60), (61, i61), (62, i62), (64, i64), (65, i65), (66, i66), (67, i67), (68, i68), (69, i69), (70, i70), (71, i71), (72, i72), (73, i73), (74, i74), (75, i75), (76, i76), (77, i77), (78, i78), (79, i79), (80, i80), (81, i81), (82, i82), (83, i83), (84, i84), (85, i85), (86, i86), (87, i87), (88, i88), (89, i89), (90, i90), (91, i91), (92, i92), (93, i93), (94, i94), (95, i95), (97, i97), (98, i98), (99, i99), (100, i100), (101, i101), (102, i102), (103, i103), (104, i104), (105, i105), (106, i106), (107, i107), (108, i108), (109, i109), (110, i110), (111, i111), (112, i112), (113, i113), (114, i114), (115, i115), (116, i116), (117, i117), (118, i118), (119, i119), (120, i120), (121, i121), (122, i122), (123, i123), (124, i124), (125, i125)]
def T : Tab := tabOf L
theorem ok : TOk Try.prog T := tabOk (by kernel_rfl)
theorem t1 : T 1 = some { k := .func, size := 1, bytes := 8, zero := [.nilFunc] } := rfl
theorem t2 : T 2 = some { k := .int .i64, size := 1, bytes := 8, zero := [.int .i64 0] } := rfl
theorem t3 : T 3 = some { k := .int .i64, size := 1, bytes := 8, zero := [.int .i64 0] } := rfl
theorem t4 : T 4 = some { k := .bool, size := 1, bytes := 1, zero := [.bool false] } := rfl
theorem t5 : T 5 = some { k := .int .u8, size := 1, bytes := 1, zero := [.int .u8 0] } := rfl
theorem t6 : T 6 = some { k := .int .u8, size := 1, bytes := 1, zero := [.int .u8 0] } := rfl
theorem t7 : T 7 = some { k := .struct [(0, 2), (1, 3), (2, 4), (3, 6)], size := 4, bytes := 24, zero := [.int .i64 0, .int .i64 0, .bool false, .int .u8 0], eq := true } := rfl
theorem t8 : T 8 = some { k := .struct [(0, 2), (1, 3), (2, 4), (3, 6)], size := 4, bytes := 24, zero := [.int .i64 0, .int .i64 0, .bool false, .int .u8 0], eq := true } := rfl
theorem t9 : T 9 = some { k := .str, size := 1, bytes := 16, zero := [.string ⟨#[]⟩] } := rfl
theorem t10 : T 10 = some { k := .str, size := 1, bytes := 16, zero := [.string ⟨#[]⟩] } := rfl
theorem t11 : T 11 = some { k := .str, size := 1, bytes := 16, zero := [.string ⟨#[]⟩] } := rfl
theorem t12 : T 12 = some { k := .int .u64, size := 1, bytes := 8, zero := [.int .u64 0] } := rfl
theorem t13 : T 13 = some { k := .struct [(0, 9), (1, 12)], size := 2, bytes := 24, zero := [.string ⟨#[]⟩, .int .u64 0] } := rfl
theorem t14 : T 14 = some { k := .struct [(0, 9), (1, 12)], size := 2, bytes := 24, zero := [.string ⟨#[]⟩, .int .u64 0] } := rfl
theorem t15 : T 15 = some { k := .ptr 112, size := 1, bytes := 8, zero := [.pointer none] } := rfl
theorem t16 : T 16 = some { k := .ptr 115, size := 1, bytes := 8, zero := [.pointer none] } := rfl
theorem t17 : T 17 = some { k := .ptr 125, size := 1, bytes := 8, zero := [.pointer none] } := rfl
theorem t18 : T 18 = some { k := .struct [(0, 17)], size := 1, bytes := 8, zero := [.pointer none] } := rfl
theorem t19 : T 19 = some { k := .struct [(0, 17)], size := 1, bytes := 8, zero := [.pointer none] } := rfl
theorem t21 : T 21 = some { k := .int .i32, size := 1, bytes := 4, zero := [.int .i32 0] } := rfl
theorem t22 : T 22 = some { k := .slice 41, size := 1, bytes := 24, zero := [.slice none 0 0] } := rfl
theorem t23 : T 23 = some { k := .slice 51, size := 1, bytes := 24, zero := [.slice none 0 0] } := rfl
theorem t24 : T 24 = some { k := .slice 47, size := 1, bytes := 24, zero := [.slice none 0 0] } := rfl
theorem t25 : T 25 = some { k := .struct [(0, 22), (1, 23), (2, 24)], size := 3, bytes := 72, zero := [.slice none 0 0, .slice none 0 0, .slice none 0 0] } := rfl
theorem t26 : T 26 = some { k := .struct [(0, 22), (1, 23), (2, 24)], size := 3, bytes := 72, zero := [.slice none 0 0, .slice none 0 0, .slice none 0 0] } := rfl
theorem t27 : T 27 = some { k := .func, size := 1, bytes := 8, zero := [.nilFunc] } := rfl
theorem t28 : T 28 = some { k := .func, size := 1, bytes := 8, zero := [.nilFunc] } := rfl
theorem t29 : T 29 = some { k := .slice 36, size := 1, bytes := 24, zero := [.slice none 0 0] } := rfl
theorem t30 : T 30 = some { k := .int .i64, size := 1, bytes := 8, zero := [.int .i64 0] } := rfl
theorem t32 : T 32 = some { k := .func, size := 1, bytes := 8, zero := [.nilFunc] } := rfl
theorem t34 : T 34 = some { k := .func, size := 1, bytes := 8, zero := [.nilFunc] } := rfl
theorem t35 : T 35 = some { k := .func, size := 1, bytes := 8, zero := [.nilFunc] } := rfl
theorem t36 : T 36 = some { k := .slice 42, size := 1, bytes := 24, zero := [.slice none 0 0] } := rfl
theorem t37 : T 37 = some { k := .func, size := 1, bytes := 8, zero := [.nilFunc] } := rfl
theorem t38 : T 38 = some { k := .func, size := 1, bytes := 8, zero := [.nilFunc] } := rfl
theorem t39 : T 39 = some { k := .slice 44, size := 1, bytes := 24, zero := [.slice none 0 0] } := rfl
theorem t40 : T 40 = some { k := .struct [(0, 9), (1, 3), (2, 3), (3, 39)], size := 4, bytes := 56, zero := [.string ⟨#[]⟩, .int .i64 0, .int .i64 0, .slice none 0 0] } := rfl
theorem t41 : T 41 = some { k := .struct [(0, 9), (1, 3), (2, 3), (3, 39)], size := 4, bytes := 56, zero := [.string ⟨#[]⟩, .int .i64 0, .int .i64 0, .slice none 0 0] } := rfl
theorem t42 : T 42 = some { k := .slice 4, size := 1, bytes := 24, zero := [.slice none 0 0] } := rfl
theorem t43 : T 43 = some { k := .struct [(0, 3), (1, 3), (2, 3), (3, 3)], size := 4, bytes := 32, zero := [.int .i64 0, .int .i64 0, .int .i64 0, .int .i64 0], eq := true } := rfl
theorem t44 : T 44 = some { k := .struct [(0, 3), (1, 3), (2, 3), (3, 3)], size := 4, bytes := 32, zero := [.int .i64 0, .int .i64 0, .int .i64 0, .int .i64 0], eq := true } := rfl
theorem t46 : T 46 = some { k := .func, size := 1, bytes := 8, zero := [.nilFunc] } := rfl
theorem t47 : T 47 = some { k := .slice 3, size := 1, bytes := 24, zero := [.slice none 0 0] } := rfl
theorem t49 : T 49 = some { k := .func, size := 1, bytes := 8, zero := [.nilFunc] } := rfl
theorem t50 : T 50 = some { k := .func, size := 1, bytes := 8, zero := [.nilFunc] } := rfl
theorem t51 : T 51 = some { k := .slice 5, size := 1, bytes := 24, zero := [.slice none 0 0] } := rfl
theorem t52 : T 52 = some { k := .func, size := 1, bytes := 8, zero := [.nilFunc] } := rfl
theorem t53 : T 53 = some { k := .ptr 55, size := 1, bytes := 8, zero := [.pointer none] } := rfl
theorem t54 : T 54 = some { k := .struct [(0, 26), (3, 41), (7, 36), (8, 42), (9, 47), (10, 4)], size := 11, bytes := 208, zero := [.slice none 0 0, .slice none 0 0, .slice none 0 0, .string ⟨#[]⟩, .int .i64 0, .int .i64 0, .slice none 0 0, .slice none 0 0, .slice none 0 0, .slice none 0 0, .bool false] } := rfl
theorem t55 : T 55 = some { k := .struct [(0, 26), (3, 41), (7, 36), (8, 42), (9, 47), (10, 4)], size := 11, bytes := 208, zero := [.slice none 0 0, .slice none 0 0, .slice none 0 0, .string ⟨#[]⟩, .int .i64 0, .int .i64 0, .slice none 0 0, .slice none 0 0, .slice none 0 0, .slice none 0 0, .bool false], ex := true } := rfl
theorem t57 : T 57 = some { k := .func, size := 1, bytes := 8, zero := [.nilFunc] } := rfl
theorem t58 : T 58 = some { k := .func, size := 1, bytes := 8, zero := [.nilFunc] } := rfl
theorem t59 : T 59 = some { k := .func, size := 1, bytes := 8, zero := [.nilFunc] } := rfl
theorem t60 : T 60 = some { k := .slice 62, size := 1, bytes := 24, zero := [.slice none 0 0] } := rfl
theorem t61 : T 61 = some { k := .struct [(0, 3), (1, 9), (2, 60)], size := 3, bytes := 48, zero := [.int .i64 0, .string ⟨#[]⟩, .slice none 0 0] } := rfl
theorem t62 : T 62 = some { k := .struct [(0, 3), (1, 9), (2, 60)], size := 3, bytes := 48, zero := [.int .i64 0, .string ⟨#[]⟩, .slice none 0 0] } := rfl
theorem t64 : T 64 = some { k := .func, size := 1, bytes := 8, zero := [.nilFunc] } := rfl
theorem t65 : T 65 = some { k := .func, size := 1, bytes := 8, zero := [.nilFunc] } := rfl
theorem t66 : T 66 = some { k := .func, size := 1, bytes := 8, zero := [.nilFunc] } := rfl
theorem t67 : T 67 = some { k := .func, size := 1, bytes := 8, zero := [.nilFunc] } := rfl
theorem t68 : T 68 = some { k := .func, size := 1, bytes := 8, zero := [.nilFunc] } := rfl
theorem t69 : T 69 = some { k := .func, size := 1, bytes := 8, zero := [.nilFunc] } := rfl
theorem t70 : T 70 = some { k := .func, size := 1, bytes := 8, zero := [.nilFunc] } := rfl
theorem t71 : T 71 = some { k := .func, size := 1, bytes := 8, zero := [.nilFunc] } := rfl
theorem t72 : T 72 = some { k := .func, size := 1, bytes := 8, zero := [.nilFunc] } := rfl
theorem t73 : T 73 = some { k := .ptr 75, size := 1, bytes := 8, zero := [.pointer none] } := rfl
theorem t74 : T 74 = some { k := .struct [(0, 26), (3, 41), (7, 36), (8, 42), (9, 4), (10, 4)], size := 11, bytes := 184, zero := [.slice none 0 0, .slice none 0 0, .slice none 0 0, .string ⟨#[]⟩, .int .i64 0, .int .i64 0, .slice none 0 0, .slice none 0 0, .slice none 0 0, .bool false, .bool false] } := rfl
theorem t75 : T 75 = some { k := .struct [(0, 26), (3, 41), (7, 36), (8, 42), (9, 4), (10, 4)], size := 11, bytes := 184, zero := [.slice none 0 0, .slice none 0 0, .slice none 0 0, .string ⟨#[]⟩, .int .i64 0, .int .i64 0, .slice none 0 0, .slice none 0 0, .slice none 0 0, .bool false, .bool false] } := rfl
theorem t76 : T 76 = some { k := .func, size := 1, bytes := 8, zero := [.nilFunc] } := rfl
theorem t77 : T 77 = some { k := .func, size := 1, bytes := 8, zero := [.nilFunc] } := rfl
theorem t78 : T 78 = some { k := .func, size := 1, bytes := 8, zero := [.nilFunc] } := rfl
theorem t79 : T 79 = some { k := .func, size := 1, bytes := 8, zero := [.nilFunc] } := rfl
theorem t80 : T 80 = some { k := .func, size := 1, bytes := 8, zero := [.nilFunc] } := rfl
theorem t81 : T 81 = some { k := .func, size := 1, bytes := 8, zero := [.nilFunc] } := rfl
theorem t82 : T 82 = some { k := .func, size := 1, bytes := 8, zero := [.nilFunc] } := rfl
theorem t83 : T 83 = some { k := .func, size := 1, bytes := 8, zero := [.nilFunc] } := rfl
theorem t84 : T 84 = some { k := .func, size := 1, bytes := 8, zero := [.nilFunc] } := rfl
theorem t85 : T 85 = some { k := .func, size := 1, bytes := 8, zero := [.nilFunc] } := rfl
theorem t86 : T 86 = some { k := .func, size := 1, bytes := 8, zero := [.nilFunc] } := rfl
theorem t87 : T 87 = some { k := .func, size := 1, bytes := 8, zero := [.nilFunc] } := rfl
theorem t88 : T 88 = some { k := .func, size := 1, bytes := 8, zero := [.nilFunc] } := rfl
theorem t89 : T 89 = some { k := .func, size := 1, bytes := 8, zero := [.nilFunc] } := rfl
theorem t90 : T 90 = some { k := .func, size := 1, bytes := 8, zero := [.nilFunc] } := rfl
theorem t91 : T 91 = some { k := .struct [(0, 3), (1, 3)], size := 2, bytes := 16, zero := [.int .i64 0, .int .i64 0], eq := true } := rfl
theorem t92 : T 92 = some { k := .struct [(0, 3), (1, 3)], size := 2, bytes := 16, zero := [.int .i64 0, .int .i64 0], eq := true } := rfl
theorem t93 : T 93 = some { k := .arr 3 92, size := 6, bytes := 48, zero := [.int .i64 0, .int .i64 0, .int .i64 0, .int .i64 0, .int .i64 0, .int .i64 0], eq := true } := rfl
theorem t94 : T 94 = some { k := .struct [(0, 9), (1, 93), (7, 3), (8, 3), (9, 3), (10, 4)], size := 11, bytes := 96, zero := [.string ⟨#[]⟩, .int .i64 0, .int .i64 0, .int .i64 0, .int .i64 0, .int .i64 0, .int .i64 0, .int .i64 0, .int .i64 0, .int .i64 0, .bool false], eq := true } := rfl
theorem t95 : T 95 = some { k := .struct [(0, 9), (1, 93), (7, 3), (8, 3), (9, 3), (10, 4)], size := 11, bytes := 96, zero := [.string ⟨#[]⟩, .int .i64 0, .int .i64 0, .int .i64 0, .int .i64 0, .int .i64 0, .int .i64 0, .int .i64 0, .int .i64 0, .int .i64 0, .bool false], eq := true } := rfl
theorem t97 : T 97 = some { k := .func, size := 1, bytes := 8, zero := [.nilFunc] } := rfl
theorem t98 : T 98 = some { k := .func, size := 1, bytes := 8, zero := [.nilFunc] } := rfl
theorem t99 : T 99 = some { k := .func, size := 1, bytes := 8, zero := [.nilFunc] } := rfl
theorem t100 : T 100 = some { k := .func, size := 1, bytes := 8, zero := [.nilFunc] } := rfl
theorem t101 : T 101 = some { k := .func, size := 1, bytes := 8, zero := [.nilFunc] } := rfl
theorem t102 : T 102 = some { k := .func, size := 1, bytes := 8, zero := [.nilFunc] } := rfl
theorem t103 : T 103 = some { k := .func, size := 1, bytes := 8, zero := [.nilFunc] } := rfl
theorem t104 : T 104 = some { k := .arr 16 95, size := 176, bytes := 1536, zero := [.string ⟨#[]⟩, .int .i64 0, .int .i64 0, .int .i64 0, .int .i64 0, .int .i64 0, .int .i64 0, .int .i64 0, .int .i64 0, .int .i64 0, .bool false, .string ⟨#[]⟩, .int .i64 0, .int .i64 0, .int .i64 0, .int .i64 0, .int .i64 0, .int .i64 0, .int .i64 0, .int .i64 0, .int .i64 0, .bool false, .string ⟨#[]⟩, .int .i64 0, .int .i64 0, .int .i64 0, .int .i64 0, .int .i64 0, .int .i64 0, .int .i64 0, .int .i64 0, .int .i64 0, .bool false, .string ⟨#[]⟩, .int .i64 0, .int .i64 0, .int .i64 0, .int .i64 0, .int .i64 0, .int .i64 0, .int .i64 0, .int .i64 0, .int .i64 0, .bool false, .string ⟨#[]⟩, .int .i64 0, .int .i64 0, .int .i64 0, .int .i64 0, .int .i64 0, .int .i64 0, .int .i64 0, .int .i64 0, .int .i64 0, .bool false, .string ⟨#[]⟩, .int .i64 0, .int .i64 0, .int .i64 0, .int .i64 0, .int .i64 0, .int .i64 0, .int .i64 0, .int .i64 0, .int .i64 0, .bool false, .string ⟨#[]⟩, .int .i64 0, .int .i64 0, .int .i64 0, .int .i64 0, .int .i64 0, .int .i64 0, .int .i64 0, .int .i64 0, .int .i64 0, .bool false, .string ⟨#[]⟩, .int .i64 0, .int .i64 0, .int .i64 0, .int .i64 0, .int .i64 0, .int .i64 0, .int .i64 0, .int .i64 0, .int .i64 0, .bool false, .string ⟨#[]⟩, .int .i64 0, .int .i64 0, .int .i64 0, .int .i64 0, .int .i64 0, .int .i64 0, .int .i64 0, .int .i64 0, .int .i64 0, .bool false, .string ⟨#[]⟩, .int .i64 0, .int .i64 0, .int .i64 0, .int .i64 0, .int .i64 0, .int .i64 0, .int .i64 0, .int .i64 0, .int .i64 0, .bool false, .string ⟨#[]⟩, .int .i64 0, .int .i64 0, .int .i64 0, .int .i64 0, .int .i64 0, .int .i64 0, .int .i64 0, .int .i64 0, .int .i64 0, .bool false, .string ⟨#[]⟩, .int .i64 0, .int .i64 0, .int .i64 0, .int .i64 0, .int .i64 0, .int .i64 0, .int .i64 0, .int .i64 0, .int .i64 0, .bool false, .string ⟨#[]⟩, .int .i64 0, .int .i64 0, .int .i64 0, .int .i64 0, .int .i64 0, .int .i64 0, .int .i64 0, .int .i64 0, .int .i64 0, .bool false, .string ⟨#[]⟩, .int .i64 0, .int .i64 0, .int .i64 0, .int .i64 0, .int .i64 0, .int .i64 0, .int .i64 0, .int .i64 0, .int .i64 0, .bool false, .string ⟨#[]⟩, .int .i64 0, .int .i64 0, .int .i64 0, .int .i64 0, .int .i64 0, .int .i64 0, .int .i64 0, .int .i64 0, .int .i64 0, .bool false, .string ⟨#[]⟩, .int .i64 0, .int .i64 0, .int .i64 0, .int .i64 0, .int .i64 0, .int .i64 0, .int .i64 0, .int .i64 0, .int .i64 0, .bool false], eq := true } := rfl
theorem t105 : T 105 = some { k := .func, size := 1, bytes := 8, zero := [.nilFunc] } := rfl
theorem t106 : T 106 = some { k := .arr 3 3, size := 3, bytes := 24, zero := [.int .i64 0, .int .i64 0, .int .i64 0], eq := true } := rfl
theorem t107 : T 107 = some { k := .func, size := 1, bytes := 8, zero := [.nilFunc] } := rfl
theorem t108 : T 108 = some { k := .func, size := 1, bytes := 8, zero := [.nilFunc] } := rfl
theorem t109 : T 109 = some { k := .func, size := 1, bytes := 8, zero := [.nilFunc] } := rfl
theorem t110 : T 110 = some { k := .func, size := 1, bytes := 8, zero := [.nilFunc] } := rfl
theorem t111 : T 111 = some { k := .struct [(0, 17), (1, 17), (2, 17), (3, 9)], size := 4, bytes := 40, zero := [.pointer none, .pointer none, .pointer none, .string ⟨#[]⟩] } := rfl
theorem t112 : T 112 = some { k := .struct [(0, 17), (1, 17), (2, 17), (3, 9)], size := 4, bytes := 40, zero := [.pointer none, .pointer none, .pointer none, .string ⟨#[]⟩] } := rfl
theorem t113 : T 113 = some { k := .arr 0 16, size := 0, bytes := 0, zero := [] } := rfl
theorem t114 : T 114 = some { k := .struct [(0, 113)], size := 0, bytes := 0, zero := [] } := rfl
theorem t115 : T 115 = some { k := .struct [(0, 113)], size := 0, bytes := 0, zero := [] } := rfl
theorem t116 : T 116 = some { k := .func, size := 1, bytes := 8, zero := [.nilFunc] } := rfl
theorem t117 : T 117 = some { k := .int .u32, size := 1, bytes := 4, zero := [.int .u32 0] } := rfl
theorem t118 : T 118 = some { k := .int .u8, size := 1, bytes := 1, zero := [.int .u8 0] } := rfl
theorem t119 : T 119 = some { k := .int .u8, size := 1, bytes := 1, zero := [.int .u8 0] } := rfl
theorem t120 : T 120 = some { k := .func, size := 1, bytes := 8, zero := [.nilFunc] } := rfl
theorem t121 : T 121 = some { k := .ptr 5, size := 1, bytes := 8, zero := [.pointer none] } := rfl
theorem t122 : T 122 = some { k := .int .i32, size := 1, bytes := 4, zero := [.int .i32 0] } := rfl
theorem t123 : T 123 = some { k := .int .i32, size := 1, bytes := 4, zero := [.int .i32 0] } := rfl
theorem t124 : T 124 = some { k := .struct [(0, 12), (1, 12), (2, 117), (3, 118), (4, 5), (5, 5), (6, 119), (7, 120), (8, 121), (9, 122), (10, 123)], size := 11, bytes := 48, zero := [.int .u64 0, .int .u64 0, .int .u32 0, .int .u8 0, .int .u8 0, .int .u8 0, .int .u8 0, .nilFunc, .pointer none, .int .i32 0, .int .i32 0] } := rfl
theorem t125 : T 125 = some { k := .struct [(0, 12), (1, 12), (2, 117), (3, 118), (4, 5), (5, 5), (6, 119), (7, 120), (8, 121), (9, 122), (10, 123)], size := 11, bytes := 48, zero := [.int .u64 0, .int .u64 0, .int .u32 0, .int .u8 0, .int .u8 0, .int .u8 0, .int .u8 0, .nilFunc, .pointer none, .int .i32 0, .int .i32 0] } := rfl
end Go.Proofs.Ytcdafogfmijcpaa.T
