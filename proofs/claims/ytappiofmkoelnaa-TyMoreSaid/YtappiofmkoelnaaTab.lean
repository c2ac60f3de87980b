/-
  The types of the program, as the evaluator wants them.
-/
import Derived.Test.YtappiofmkoelnaaProg
import Derived.Test.YtappiofmkoelnaaAh14
namespace Go.Proofs.Ytappiofmkoelnaa.T
open Go.Proofs.YtappiofmkoelnaaW.Ah
abbrev i1 : TI := { k := .func, size := 1, bytes := 8, zero := [.nilFunc] }
abbrev i2 : TI := { k := .int .i64, size := 1, bytes := 8, zero := [.int .i64 0] }
abbrev i3 : TI := { k := .int .i64, size := 1, bytes := 8, zero := [.int .i64 0] }
abbrev i4 : TI := { k := .bool, size := 1, bytes := 1, zero := [.bool false] }
abbrev i5 : TI := { k := .int .u8, size := 1, bytes := 1, zero := [.int .u8 0] }
abbrev i6 : TI := { k := .int .u8, size := 1, bytes := 1, zero := [.int .u8 0] }
abbrev i7 : TI := { k := .struct [(0, 2), (1, 3), (2, 4), (3, 6)], size := 4, bytes := 24, zero := [.int .i64 0, .int .i64 0, .bool false, .int .u8 0], eq := true }
abbrev i8 : TI := { k := .struct [(0, 2), (1, 3), (2, 4), (3, 6)], size := 4, bytes := 24, zero := [.int .i64 0, .int .i64 0, .bool false, .int .u8 0], eq := true }
abbrev i9 : TI := { k := .str, size := 1, bytes := 16, zero := [.string ⟨#[]⟩] }
abbrev i10 : TI := { k := .str, size := 1, bytes := 16, zero := [.string ⟨#[]⟩] }
abbrev i11 : TI := { k := .str, size := 1, bytes := 16, zero := [.string ⟨#[]⟩] }
abbrev i12 : TI := { k := .int .u64, size := 1, bytes := 8, zero := [.int .u64 0] }
abbrev i13 : TI := { k := .struct [(0, 9), (1, 12)], size := 2, bytes := 24, zero := [.string ⟨#[]⟩, .int .u64 0] }
abbrev i14 : TI := { k := .struct [(0, 9), (1, 12)], size := 2, bytes := 24, zero := [.string ⟨#[]⟩, .int .u64 0] }
abbrev i15 : TI := { k := .ptr 95, size := 1, bytes := 8, zero := [.pointer none] }
abbrev i16 : TI := { k := .ptr 98, size := 1, bytes := 8, zero := [.pointer none] }
abbrev i17 : TI := { k := .ptr 108, size := 1, bytes := 8, zero := [.pointer none] }
abbrev i18 : TI := { k := .struct [(0, 17)], size := 1, bytes := 8, zero := [.pointer none] }
abbrev i19 : TI := { k := .struct [(0, 17)], size := 1, bytes := 8, zero := [.pointer none] }
abbrev i21 : TI := { k := .int .i32, size := 1, bytes := 4, zero := [.int .i32 0] }
abbrev i22 : TI := { k := .slice 32, size := 1, bytes := 24, zero := [.slice none 0 0] }
abbrev i23 : TI := { k := .func, size := 1, bytes := 8, zero := [.nilFunc] }
abbrev i24 : TI := { k := .func, size := 1, bytes := 8, zero := [.nilFunc] }
abbrev i25 : TI := { k := .func, size := 1, bytes := 8, zero := [.nilFunc] }
abbrev i27 : TI := { k := .func, size := 1, bytes := 8, zero := [.nilFunc] }
abbrev i28 : TI := { k := .struct [(0, 3), (1, 3)], size := 2, bytes := 16, zero := [.int .i64 0, .int .i64 0], eq := true }
abbrev i29 : TI := { k := .struct [(0, 3), (1, 3)], size := 2, bytes := 16, zero := [.int .i64 0, .int .i64 0], eq := true }
abbrev i30 : TI := { k := .slice 35, size := 1, bytes := 24, zero := [.slice none 0 0] }
abbrev i31 : TI := { k := .struct [(0, 29), (2, 9), (3, 30)], size := 4, bytes := 56, zero := [.int .i64 0, .int .i64 0, .string ⟨#[]⟩, .slice none 0 0] }
abbrev i32 : TI := { k := .struct [(0, 29), (2, 9), (3, 30)], size := 4, bytes := 56, zero := [.int .i64 0, .int .i64 0, .string ⟨#[]⟩, .slice none 0 0] }
abbrev i33 : TI := { k := .slice 40, size := 1, bytes := 24, zero := [.slice none 0 0] }
abbrev i34 : TI := { k := .struct [(0, 9), (1, 33)], size := 2, bytes := 40, zero := [.string ⟨#[]⟩, .slice none 0 0] }
abbrev i35 : TI := { k := .struct [(0, 9), (1, 33)], size := 2, bytes := 40, zero := [.string ⟨#[]⟩, .slice none 0 0] }
abbrev i36 : TI := { k := .func, size := 1, bytes := 8, zero := [.nilFunc] }
abbrev i37 : TI := { k := .slice 4, size := 1, bytes := 24, zero := [.slice none 0 0] }
abbrev i38 : TI := { k := .func, size := 1, bytes := 8, zero := [.nilFunc] }
abbrev i39 : TI := { k := .struct [(0, 3), (1, 9), (2, 33)], size := 3, bytes := 48, zero := [.int .i64 0, .string ⟨#[]⟩, .slice none 0 0] }
abbrev i40 : TI := { k := .struct [(0, 3), (1, 9), (2, 33)], size := 3, bytes := 48, zero := [.int .i64 0, .string ⟨#[]⟩, .slice none 0 0] }
abbrev i41 : TI := { k := .func, size := 1, bytes := 8, zero := [.nilFunc] }
abbrev i42 : TI := { k := .func, size := 1, bytes := 8, zero := [.nilFunc] }
abbrev i43 : TI := { k := .slice 75, size := 1, bytes := 24, zero := [.slice none 0 0] }
abbrev i44 : TI := { k := .slice 5, size := 1, bytes := 24, zero := [.slice none 0 0] }
abbrev i45 : TI := { k := .slice 48, size := 1, bytes := 24, zero := [.slice none 0 0] }
abbrev i46 : TI := { k := .slice 89, size := 1, bytes := 24, zero := [.slice none 0 0] }
abbrev i47 : TI := { k := .struct [(0, 3), (1, 29), (3, 2), (4, 44), (5, 9), (6, 45), (7, 46)], size := 8, bytes := 120, zero := [.int .i64 0, .int .i64 0, .int .i64 0, .int .i64 0, .slice none 0 0, .string ⟨#[]⟩, .slice none 0 0, .slice none 0 0] }
abbrev i48 : TI := { k := .struct [(0, 3), (1, 29), (3, 2), (4, 44), (5, 9), (6, 45), (7, 46)], size := 8, bytes := 120, zero := [.int .i64 0, .int .i64 0, .int .i64 0, .int .i64 0, .slice none 0 0, .string ⟨#[]⟩, .slice none 0 0, .slice none 0 0] }
abbrev i49 : TI := { k := .slice 79, size := 1, bytes := 24, zero := [.slice none 0 0] }
abbrev i50 : TI := { k := .struct [(0, 22), (1, 43), (2, 3), (3, 3), (4, 40), (7, 3), (8, 48), (16, 49)], size := 17, bytes := 264, zero := [.slice none 0 0, .slice none 0 0, .int .i64 0, .int .i64 0, .int .i64 0, .string ⟨#[]⟩, .slice none 0 0, .int .i64 0, .int .i64 0, .int .i64 0, .int .i64 0, .int .i64 0, .slice none 0 0, .string ⟨#[]⟩, .slice none 0 0, .slice none 0 0, .slice none 0 0] }
abbrev i51 : TI := { k := .struct [(0, 22), (1, 43), (2, 3), (3, 3), (4, 40), (7, 3), (8, 48), (16, 49)], size := 17, bytes := 264, zero := [.slice none 0 0, .slice none 0 0, .int .i64 0, .int .i64 0, .int .i64 0, .string ⟨#[]⟩, .slice none 0 0, .int .i64 0, .int .i64 0, .int .i64 0, .int .i64 0, .int .i64 0, .slice none 0 0, .string ⟨#[]⟩, .slice none 0 0, .slice none 0 0, .slice none 0 0] }
abbrev i52 : TI := { k := .func, size := 1, bytes := 8, zero := [.nilFunc] }
abbrev i53 : TI := { k := .func, size := 1, bytes := 8, zero := [.nilFunc] }
abbrev i54 : TI := { k := .func, size := 1, bytes := 8, zero := [.nilFunc] }
abbrev i55 : TI := { k := .func, size := 1, bytes := 8, zero := [.nilFunc] }
abbrev i56 : TI := { k := .func, size := 1, bytes := 8, zero := [.nilFunc] }
abbrev i57 : TI := { k := .func, size := 1, bytes := 8, zero := [.nilFunc] }
abbrev i58 : TI := { k := .func, size := 1, bytes := 8, zero := [.nilFunc] }
abbrev i59 : TI := { k := .func, size := 1, bytes := 8, zero := [.nilFunc] }
abbrev i60 : TI := { k := .func, size := 1, bytes := 8, zero := [.nilFunc] }
abbrev i61 : TI := { k := .ptr 64, size := 1, bytes := 8, zero := [.pointer none] }
abbrev i62 : TI := { k := .map 9 3, size := 1, bytes := 8, zero := [.map none] }
abbrev i63 : TI := { k := .struct [(0, 22), (1, 62), (2, 37)], size := 3, bytes := 56, zero := [.slice none 0 0, .map none, .slice none 0 0] }
abbrev i64 : TI := { k := .struct [(0, 22), (1, 62), (2, 37)], size := 3, bytes := 56, zero := [.slice none 0 0, .map none, .slice none 0 0] }
abbrev i65 : TI := { k := .func, size := 1, bytes := 8, zero := [.nilFunc] }
abbrev i66 : TI := { k := .func, size := 1, bytes := 8, zero := [.nilFunc] }
abbrev i67 : TI := { k := .func, size := 1, bytes := 8, zero := [.nilFunc] }
abbrev i68 : TI := { k := .func, size := 1, bytes := 8, zero := [.nilFunc] }
abbrev i69 : TI := { k := .func, size := 1, bytes := 8, zero := [.nilFunc] }
abbrev i70 : TI := { k := .func, size := 1, bytes := 8, zero := [.nilFunc] }
abbrev i71 : TI := { k := .func, size := 1, bytes := 8, zero := [.nilFunc] }
abbrev i72 : TI := { k := .func, size := 1, bytes := 8, zero := [.nilFunc] }
abbrev i73 : TI := { k := .slice 77, size := 1, bytes := 24, zero := [.slice none 0 0] }
abbrev i74 : TI := { k := .struct [(0, 29), (2, 9), (3, 73), (4, 40), (7, 48)], size := 15, bytes := 224, zero := [.int .i64 0, .int .i64 0, .string ⟨#[]⟩, .slice none 0 0, .int .i64 0, .string ⟨#[]⟩, .slice none 0 0, .int .i64 0, .int .i64 0, .int .i64 0, .int .i64 0, .slice none 0 0, .string ⟨#[]⟩, .slice none 0 0, .slice none 0 0] }
abbrev i75 : TI := { k := .struct [(0, 29), (2, 9), (3, 73), (4, 40), (7, 48)], size := 15, bytes := 224, zero := [.int .i64 0, .int .i64 0, .string ⟨#[]⟩, .slice none 0 0, .int .i64 0, .string ⟨#[]⟩, .slice none 0 0, .int .i64 0, .int .i64 0, .int .i64 0, .int .i64 0, .slice none 0 0, .string ⟨#[]⟩, .slice none 0 0, .slice none 0 0] }
abbrev i76 : TI := { k := .struct [(0, 9), (1, 40)], size := 4, bytes := 64, zero := [.string ⟨#[]⟩, .int .i64 0, .string ⟨#[]⟩, .slice none 0 0] }
abbrev i77 : TI := { k := .struct [(0, 9), (1, 40)], size := 4, bytes := 64, zero := [.string ⟨#[]⟩, .int .i64 0, .string ⟨#[]⟩, .slice none 0 0] }
abbrev i78 : TI := { k := .struct [(0, 29), (2, 9), (3, 77), (7, 3), (8, 48)], size := 16, bytes := 224, zero := [.int .i64 0, .int .i64 0, .string ⟨#[]⟩, .string ⟨#[]⟩, .int .i64 0, .string ⟨#[]⟩, .slice none 0 0, .int .i64 0, .int .i64 0, .int .i64 0, .int .i64 0, .int .i64 0, .slice none 0 0, .string ⟨#[]⟩, .slice none 0 0, .slice none 0 0] }
abbrev i79 : TI := { k := .struct [(0, 29), (2, 9), (3, 77), (7, 3), (8, 48)], size := 16, bytes := 224, zero := [.int .i64 0, .int .i64 0, .string ⟨#[]⟩, .string ⟨#[]⟩, .int .i64 0, .string ⟨#[]⟩, .slice none 0 0, .int .i64 0, .int .i64 0, .int .i64 0, .int .i64 0, .int .i64 0, .slice none 0 0, .string ⟨#[]⟩, .slice none 0 0, .slice none 0 0] }
abbrev i80 : TI := { k := .func, size := 1, bytes := 8, zero := [.nilFunc] }
abbrev i81 : TI := { k := .func, size := 1, bytes := 8, zero := [.nilFunc] }
abbrev i82 : TI := { k := .func, size := 1, bytes := 8, zero := [.nilFunc] }
abbrev i83 : TI := { k := .func, size := 1, bytes := 8, zero := [.nilFunc] }
abbrev i84 : TI := { k := .func, size := 1, bytes := 8, zero := [.nilFunc] }
abbrev i85 : TI := { k := .slice 87, size := 1, bytes := 24, zero := [.slice none 0 0] }
abbrev i86 : TI := { k := .struct [(0, 3), (1, 29), (3, 9), (4, 2), (5, 85)], size := 6, bytes := 72, zero := [.int .i64 0, .int .i64 0, .int .i64 0, .string ⟨#[]⟩, .int .i64 0, .slice none 0 0] }
abbrev i87 : TI := { k := .struct [(0, 3), (1, 29), (3, 9), (4, 2), (5, 85)], size := 6, bytes := 72, zero := [.int .i64 0, .int .i64 0, .int .i64 0, .string ⟨#[]⟩, .int .i64 0, .slice none 0 0] }
abbrev i88 : TI := { k := .struct [(0, 87), (6, 48)], size := 14, bytes := 192, zero := [.int .i64 0, .int .i64 0, .int .i64 0, .string ⟨#[]⟩, .int .i64 0, .slice none 0 0, .int .i64 0, .int .i64 0, .int .i64 0, .int .i64 0, .slice none 0 0, .string ⟨#[]⟩, .slice none 0 0, .slice none 0 0] }
abbrev i89 : TI := { k := .struct [(0, 87), (6, 48)], size := 14, bytes := 192, zero := [.int .i64 0, .int .i64 0, .int .i64 0, .string ⟨#[]⟩, .int .i64 0, .slice none 0 0, .int .i64 0, .int .i64 0, .int .i64 0, .int .i64 0, .slice none 0 0, .string ⟨#[]⟩, .slice none 0 0, .slice none 0 0] }
abbrev i90 : TI := { k := .func, size := 1, bytes := 8, zero := [.nilFunc] }
abbrev i91 : TI := { k := .func, size := 1, bytes := 8, zero := [.nilFunc] }
abbrev i93 : TI := { k := .func, size := 1, bytes := 8, zero := [.nilFunc] }
abbrev i94 : TI := { k := .struct [(0, 17), (1, 17), (2, 17), (3, 9)], size := 4, bytes := 40, zero := [.pointer none, .pointer none, .pointer none, .string ⟨#[]⟩] }
abbrev i95 : TI := { k := .struct [(0, 17), (1, 17), (2, 17), (3, 9)], size := 4, bytes := 40, zero := [.pointer none, .pointer none, .pointer none, .string ⟨#[]⟩] }
abbrev i96 : TI := { k := .arr 0 16, size := 0, bytes := 0, zero := [] }
abbrev i97 : TI := { k := .struct [(0, 96)], size := 0, bytes := 0, zero := [] }
abbrev i98 : TI := { k := .struct [(0, 96)], size := 0, bytes := 0, zero := [] }
abbrev i99 : TI := { k := .func, size := 1, bytes := 8, zero := [.nilFunc] }
abbrev i100 : TI := { k := .int .u32, size := 1, bytes := 4, zero := [.int .u32 0] }
abbrev i101 : TI := { k := .int .u8, size := 1, bytes := 1, zero := [.int .u8 0] }
abbrev i102 : TI := { k := .int .u8, size := 1, bytes := 1, zero := [.int .u8 0] }
abbrev i103 : TI := { k := .func, size := 1, bytes := 8, zero := [.nilFunc] }
abbrev i104 : TI := { k := .ptr 5, size := 1, bytes := 8, zero := [.pointer none] }
abbrev i105 : TI := { k := .int .i32, size := 1, bytes := 4, zero := [.int .i32 0] }
abbrev i106 : TI := { k := .int .i32, size := 1, bytes := 4, zero := [.int .i32 0] }
abbrev i107 : TI := { k := .struct [(0, 12), (1, 12), (2, 100), (3, 101), (4, 5), (5, 5), (6, 102), (7, 103), (8, 104), (9, 105), (10, 106)], size := 11, bytes := 48, zero := [.int .u64 0, .int .u64 0, .int .u32 0, .int .u8 0, .int .u8 0, .int .u8 0, .int .u8 0, .nilFunc, .pointer none, .int .i32 0, .int .i32 0] }
abbrev i108 : TI := { k := .struct [(0, 12), (1, 12), (2, 100), (3, 101), (4, 5), (5, 5), (6, 102), (7, 103), (8, 104), (9, 105), (10, 106)], size := 11, bytes := 48, zero := [.int .u64 0, .int .u64 0, .int .u32 0, .int .u8 0, .int .u8 0, .int .u8 0, .int .u8 0, .nilFunc, .pointer none, .int .i32 0, .int .i32 0] }
def L : List (Nat × TI) := [(1, i1), (2, i2), (3, i3), (4, i4), (5, i5), (6, i6), (7, i7), (8, i8), (9, i9), (10, i10), (11, i11), (12, i12), (13, i13), (14, i14), (15, i15), (16, i16), (17, i17), (18, i18), (19, i19), (21, i21), (22, i22), (23, i23), (24, i24), (25, i25), (27, i27), (28, i28), (29, i29), (30, i30), (31, i31), (32, i32), (33, i33), (34, i34), (35, i35), (36, i36), (37, i37), (38, i38), (39, i39), (40, i40), (41, i41), (42, i42), (43, i43), (44, i44), (45, i45), (46, i46), (47, i47), (48, i48), (49, i49), (50, i50), (51, i51), (52, i52), (53, i53), (54, i54), (55, i55), (56, i56), (57, i57), (58, i58), (59, i59), (60, i60), (61, i61), (62, i62), (63, i63), (64, i64), (65, i65), (66, i66), (67, i67), (68, i68), (69, i69), (70, i70), (71, i71), (72, i72), (73, i73), (74, i74), (75, i75), (76, i76), (77, i77), (78, i78), (79, i79), (80, i80), (81, i81), (82, i82), (83, i83), (84, i84), (85, i85), (86, i86), (87, i87), (88, i88), (89, i89), (90, i90), (91, i91), (93, i93), (94, i94), (95, i95), (96, i96), (97, i97), (98, i98), (99, i99), (100, i100), (101, i101), (102, i102), (103, i103), (104, i104), (105, i105), (106, i106), (107, i107), (108, i108)]
def T : Tab := tabOf L
theorem ok : TOk Try.prog T := tabOk (by kernel_rfl)
theorem t1 : T 1 = some { k := .func, size := 1, bytes := 8, zero := [.nilFunc] } := rfl
theorem t2 : T 2 = some { k := .int .i64, size := 1, bytes := 8, zero := [.int .i64 0] } := rfl
theorem t3 : T 3 = some { k := .int .i64, size := 1, bytes := 8, zero := [.int .i64 0] } := rfl
theorem t4 : T 4 = some { k := .bool, size := 1, bytes := 1, zero := [.bool false] } := rfl
theorem t5 : T 5 = some { k := .int .u8, size := 1, bytes := 1, zero := [.int .u8 0] } := rfl
theorem t6 : T 6 = some { k := .int .u8, size := 1, bytes := 1, zero := [.int .u8 0] } := rfl
theorem t7 : T 7 = some { k := .struct [(0, 2), (1, 3), (2, 4), (3, 6)], size := 4, bytes := 24, zero := [.int .i64 0, .int .i64 0, .bool false, .int .u8 0], eq := true } := rfl
theorem t8 : T 8 = some { k := .struct [(0, 2), (1, 3), (2, 4), (3, 6)], size := 4, bytes := 24, zero := [.int .i64 0, .int .i64 0, .bool false, .int .u8 0], eq := true } := rfl
theorem t9 : T 9 = some { k := .str, size := 1, bytes := 16, zero := [.string ⟨#[]⟩] } := rfl
theorem t10 : T 10 = some { k := .str, size := 1, bytes := 16, zero := [.string ⟨#[]⟩] } := rfl
theorem t11 : T 11 = some { k := .str, size := 1, bytes := 16, zero := [.string ⟨#[]⟩] } := rfl
theorem t12 : T 12 = some { k := .int .u64, size := 1, bytes := 8, zero := [.int .u64 0] } := rfl
theorem t13 : T 13 = some { k := .struct [(0, 9), (1, 12)], size := 2, bytes := 24, zero := [.string ⟨#[]⟩, .int .u64 0] } := rfl
theorem t14 : T 14 = some { k := .struct [(0, 9), (1, 12)], size := 2, bytes := 24, zero := [.string ⟨#[]⟩, .int .u64 0] } := rfl
theorem t15 : T 15 = some { k := .ptr 95, size := 1, bytes := 8, zero := [.pointer none] } := rfl
theorem t16 : T 16 = some { k := .ptr 98, size := 1, bytes := 8, zero := [.pointer none] } := rfl
theorem t17 : T 17 = some { k := .ptr 108, size := 1, bytes := 8, zero := [.pointer none] } := rfl
theorem t18 : T 18 = some { k := .struct [(0, 17)], size := 1, bytes := 8, zero := [.pointer none] } := rfl
theorem t19 : T 19 = some { k := .struct [(0, 17)], size := 1, bytes := 8, zero := [.pointer none] } := rfl
theorem t21 : T 21 = some { k := .int .i32, size := 1, bytes := 4, zero := [.int .i32 0] } := rfl
theorem t22 : T 22 = some { k := .slice 32, size := 1, bytes := 24, zero := [.slice none 0 0] } := rfl
theorem t23 : T 23 = some { k := .func, size := 1, bytes := 8, zero := [.nilFunc] } := rfl
theorem t24 : T 24 = some { k := .func, size := 1, bytes := 8, zero := [.nilFunc] } := rfl
theorem t25 : T 25 = some { k := .func, size := 1, bytes := 8, zero := [.nilFunc] } := rfl
theorem t27 : T 27 = some { k := .func, size := 1, bytes := 8, zero := [.nilFunc] } := rfl
theorem t28 : T 28 = some { k := .struct [(0, 3), (1, 3)], size := 2, bytes := 16, zero := [.int .i64 0, .int .i64 0], eq := true } := rfl
theorem t29 : T 29 = some { k := .struct [(0, 3), (1, 3)], size := 2, bytes := 16, zero := [.int .i64 0, .int .i64 0], eq := true } := rfl
theorem t30 : T 30 = some { k := .slice 35, size := 1, bytes := 24, zero := [.slice none 0 0] } := rfl
theorem t31 : T 31 = some { k := .struct [(0, 29), (2, 9), (3, 30)], size := 4, bytes := 56, zero := [.int .i64 0, .int .i64 0, .string ⟨#[]⟩, .slice none 0 0] } := rfl
theorem t32 : T 32 = some { k := .struct [(0, 29), (2, 9), (3, 30)], size := 4, bytes := 56, zero := [.int .i64 0, .int .i64 0, .string ⟨#[]⟩, .slice none 0 0] } := rfl
theorem t33 : T 33 = some { k := .slice 40, size := 1, bytes := 24, zero := [.slice none 0 0] } := rfl
theorem t34 : T 34 = some { k := .struct [(0, 9), (1, 33)], size := 2, bytes := 40, zero := [.string ⟨#[]⟩, .slice none 0 0] } := rfl
theorem t35 : T 35 = some { k := .struct [(0, 9), (1, 33)], size := 2, bytes := 40, zero := [.string ⟨#[]⟩, .slice none 0 0] } := rfl
theorem t36 : T 36 = some { k := .func, size := 1, bytes := 8, zero := [.nilFunc] } := rfl
theorem t37 : T 37 = some { k := .slice 4, size := 1, bytes := 24, zero := [.slice none 0 0] } := rfl
theorem t38 : T 38 = some { k := .func, size := 1, bytes := 8, zero := [.nilFunc] } := rfl
theorem t39 : T 39 = some { k := .struct [(0, 3), (1, 9), (2, 33)], size := 3, bytes := 48, zero := [.int .i64 0, .string ⟨#[]⟩, .slice none 0 0] } := rfl
theorem t40 : T 40 = some { k := .struct [(0, 3), (1, 9), (2, 33)], size := 3, bytes := 48, zero := [.int .i64 0, .string ⟨#[]⟩, .slice none 0 0] } := rfl
theorem t41 : T 41 = some { k := .func, size := 1, bytes := 8, zero := [.nilFunc] } := rfl
theorem t42 : T 42 = some { k := .func, size := 1, bytes := 8, zero := [.nilFunc] } := rfl
theorem t43 : T 43 = some { k := .slice 75, size := 1, bytes := 24, zero := [.slice none 0 0] } := rfl
theorem t44 : T 44 = some { k := .slice 5, size := 1, bytes := 24, zero := [.slice none 0 0] } := rfl
theorem t45 : T 45 = some { k := .slice 48, size := 1, bytes := 24, zero := [.slice none 0 0] } := rfl
theorem t46 : T 46 = some { k := .slice 89, size := 1, bytes := 24, zero := [.slice none 0 0] } := rfl
theorem t47 : T 47 = some { k := .struct [(0, 3), (1, 29), (3, 2), (4, 44), (5, 9), (6, 45), (7, 46)], size := 8, bytes := 120, zero := [.int .i64 0, .int .i64 0, .int .i64 0, .int .i64 0, .slice none 0 0, .string ⟨#[]⟩, .slice none 0 0, .slice none 0 0] } := rfl
theorem t48 : T 48 = some { k := .struct [(0, 3), (1, 29), (3, 2), (4, 44), (5, 9), (6, 45), (7, 46)], size := 8, bytes := 120, zero := [.int .i64 0, .int .i64 0, .int .i64 0, .int .i64 0, .slice none 0 0, .string ⟨#[]⟩, .slice none 0 0, .slice none 0 0] } := rfl
theorem t49 : T 49 = some { k := .slice 79, size := 1, bytes := 24, zero := [.slice none 0 0] } := rfl
theorem t50 : T 50 = some { k := .struct [(0, 22), (1, 43), (2, 3), (3, 3), (4, 40), (7, 3), (8, 48), (16, 49)], size := 17, bytes := 264, zero := [.slice none 0 0, .slice none 0 0, .int .i64 0, .int .i64 0, .int .i64 0, .string ⟨#[]⟩, .slice none 0 0, .int .i64 0, .int .i64 0, .int .i64 0, .int .i64 0, .int .i64 0, .slice none 0 0, .string ⟨#[]⟩, .slice none 0 0, .slice none 0 0, .slice none 0 0] } := rfl
theorem t51 : T 51 = some { k := .struct [(0, 22), (1, 43), (2, 3), (3, 3), (4, 40), (7, 3), (8, 48), (16, 49)], size := 17, bytes := 264, zero := [.slice none 0 0, .slice none 0 0, .int .i64 0, .int .i64 0, .int .i64 0, .string ⟨#[]⟩, .slice none 0 0, .int .i64 0, .int .i64 0, .int .i64 0, .int .i64 0, .int .i64 0, .slice none 0 0, .string ⟨#[]⟩, .slice none 0 0, .slice none 0 0, .slice none 0 0] } := rfl
theorem t52 : T 52 = some { k := .func, size := 1, bytes := 8, zero := [.nilFunc] } := rfl
theorem t53 : T 53 = some { k := .func, size := 1, bytes := 8, zero := [.nilFunc] } := rfl
theorem t54 : T 54 = some { k := .func, size := 1, bytes := 8, zero := [.nilFunc] } := rfl
theorem t55 : T 55 = some { k := .func, size := 1, bytes := 8, zero := [.nilFunc] } := rfl
theorem t56 : T 56 = some { k := .func, size := 1, bytes := 8, zero := [.nilFunc] } := rfl
theorem t57 : T 57 = some { k := .func, size := 1, bytes := 8, zero := [.nilFunc] } := rfl
theorem t58 : T 58 = some { k := .func, size := 1, bytes := 8, zero := [.nilFunc] } := rfl
theorem t59 : T 59 = some { k := .func, size := 1, bytes := 8, zero := [.nilFunc] } := rfl
theorem t60 : T 60 = some { k := .func, size := 1, bytes := 8, zero := [.nilFunc] } := rfl
theorem t61 : T 61 = some { k := .ptr 64, size := 1, bytes := 8, zero := [.pointer none] } := rfl
theorem t62 : T 62 = some { k := .map 9 3, size := 1, bytes := 8, zero := [.map none] } := rfl
theorem t63 : T 63 = some { k := .struct [(0, 22), (1, 62), (2, 37)], size := 3, bytes := 56, zero := [.slice none 0 0, .map none, .slice none 0 0] } := rfl
theorem t64 : T 64 = some { k := .struct [(0, 22), (1, 62), (2, 37)], size := 3, bytes := 56, zero := [.slice none 0 0, .map none, .slice none 0 0] } := rfl
theorem t65 : T 65 = some { k := .func, size := 1, bytes := 8, zero := [.nilFunc] } := rfl
theorem t66 : T 66 = some { k := .func, size := 1, bytes := 8, zero := [.nilFunc] } := rfl
theorem t67 : T 67 = some { k := .func, size := 1, bytes := 8, zero := [.nilFunc] } := rfl
theorem t68 : T 68 = some { k := .func, size := 1, bytes := 8, zero := [.nilFunc] } := rfl
theorem t69 : T 69 = some { k := .func, size := 1, bytes := 8, zero := [.nilFunc] } := rfl
theorem t70 : T 70 = some { k := .func, size := 1, bytes := 8, zero := [.nilFunc] } := rfl
theorem t71 : T 71 = some { k := .func, size := 1, bytes := 8, zero := [.nilFunc] } := rfl
theorem t72 : T 72 = some { k := .func, size := 1, bytes := 8, zero := [.nilFunc] } := rfl
theorem t73 : T 73 = some { k := .slice 77, size := 1, bytes := 24, zero := [.slice none 0 0] } := rfl
theorem t74 : T 74 = some { k := .struct [(0, 29), (2, 9), (3, 73), (4, 40), (7, 48)], size := 15, bytes := 224, zero := [.int .i64 0, .int .i64 0, .string ⟨#[]⟩, .slice none 0 0, .int .i64 0, .string ⟨#[]⟩, .slice none 0 0, .int .i64 0, .int .i64 0, .int .i64 0, .int .i64 0, .slice none 0 0, .string ⟨#[]⟩, .slice none 0 0, .slice none 0 0] } := rfl
theorem t75 : T 75 = some { k := .struct [(0, 29), (2, 9), (3, 73), (4, 40), (7, 48)], size := 15, bytes := 224, zero := [.int .i64 0, .int .i64 0, .string ⟨#[]⟩, .slice none 0 0, .int .i64 0, .string ⟨#[]⟩, .slice none 0 0, .int .i64 0, .int .i64 0, .int .i64 0, .int .i64 0, .slice none 0 0, .string ⟨#[]⟩, .slice none 0 0, .slice none 0 0] } := rfl
theorem t76 : T 76 = some { k := .struct [(0, 9), (1, 40)], size := 4, bytes := 64, zero := [.string ⟨#[]⟩, .int .i64 0, .string ⟨#[]⟩, .slice none 0 0] } := rfl
theorem t77 : T 77 = some { k := .struct [(0, 9), (1, 40)], size := 4, bytes := 64, zero := [.string ⟨#[]⟩, .int .i64 0, .string ⟨#[]⟩, .slice none 0 0] } := rfl
theorem t78 : T 78 = some { k := .struct [(0, 29), (2, 9), (3, 77), (7, 3), (8, 48)], size := 16, bytes := 224, zero := [.int .i64 0, .int .i64 0, .string ⟨#[]⟩, .string ⟨#[]⟩, .int .i64 0, .string ⟨#[]⟩, .slice none 0 0, .int .i64 0, .int .i64 0, .int .i64 0, .int .i64 0, .int .i64 0, .slice none 0 0, .string ⟨#[]⟩, .slice none 0 0, .slice none 0 0] } := rfl
theorem t79 : T 79 = some { k := .struct [(0, 29), (2, 9), (3, 77), (7, 3), (8, 48)], size := 16, bytes := 224, zero := [.int .i64 0, .int .i64 0, .string ⟨#[]⟩, .string ⟨#[]⟩, .int .i64 0, .string ⟨#[]⟩, .slice none 0 0, .int .i64 0, .int .i64 0, .int .i64 0, .int .i64 0, .int .i64 0, .slice none 0 0, .string ⟨#[]⟩, .slice none 0 0, .slice none 0 0] } := rfl
theorem t80 : T 80 = some { k := .func, size := 1, bytes := 8, zero := [.nilFunc] } := rfl
theorem t81 : T 81 = some { k := .func, size := 1, bytes := 8, zero := [.nilFunc] } := rfl
theorem t82 : T 82 = some { k := .func, size := 1, bytes := 8, zero := [.nilFunc] } := rfl
theorem t83 : T 83 = some { k := .func, size := 1, bytes := 8, zero := [.nilFunc] } := rfl
theorem t84 : T 84 = some { k := .func, size := 1, bytes := 8, zero := [.nilFunc] } := rfl
theorem t85 : T 85 = some { k := .slice 87, size := 1, bytes := 24, zero := [.slice none 0 0] } := rfl
theorem t86 : T 86 = some { k := .struct [(0, 3), (1, 29), (3, 9), (4, 2), (5, 85)], size := 6, bytes := 72, zero := [.int .i64 0, .int .i64 0, .int .i64 0, .string ⟨#[]⟩, .int .i64 0, .slice none 0 0] } := rfl
theorem t87 : T 87 = some { k := .struct [(0, 3), (1, 29), (3, 9), (4, 2), (5, 85)], size := 6, bytes := 72, zero := [.int .i64 0, .int .i64 0, .int .i64 0, .string ⟨#[]⟩, .int .i64 0, .slice none 0 0] } := rfl
theorem t88 : T 88 = some { k := .struct [(0, 87), (6, 48)], size := 14, bytes := 192, zero := [.int .i64 0, .int .i64 0, .int .i64 0, .string ⟨#[]⟩, .int .i64 0, .slice none 0 0, .int .i64 0, .int .i64 0, .int .i64 0, .int .i64 0, .slice none 0 0, .string ⟨#[]⟩, .slice none 0 0, .slice none 0 0] } := rfl
theorem t89 : T 89 = some { k := .struct [(0, 87), (6, 48)], size := 14, bytes := 192, zero := [.int .i64 0, .int .i64 0, .int .i64 0, .string ⟨#[]⟩, .int .i64 0, .slice none 0 0, .int .i64 0, .int .i64 0, .int .i64 0, .int .i64 0, .slice none 0 0, .string ⟨#[]⟩, .slice none 0 0, .slice none 0 0] } := rfl
theorem t90 : T 90 = some { k := .func, size := 1, bytes := 8, zero := [.nilFunc] } := rfl
theorem t91 : T 91 = some { k := .func, size := 1, bytes := 8, zero := [.nilFunc] } := rfl
theorem t93 : T 93 = some { k := .func, size := 1, bytes := 8, zero := [.nilFunc] } := rfl
theorem t94 : T 94 = some { k := .struct [(0, 17), (1, 17), (2, 17), (3, 9)], size := 4, bytes := 40, zero := [.pointer none, .pointer none, .pointer none, .string ⟨#[]⟩] } := rfl
theorem t95 : T 95 = some { k := .struct [(0, 17), (1, 17), (2, 17), (3, 9)], size := 4, bytes := 40, zero := [.pointer none, .pointer none, .pointer none, .string ⟨#[]⟩] } := rfl
theorem t96 : T 96 = some { k := .arr 0 16, size := 0, bytes := 0, zero := [] } := rfl
theorem t97 : T 97 = some { k := .struct [(0, 96)], size := 0, bytes := 0, zero := [] } := rfl
theorem t98 : T 98 = some { k := .struct [(0, 96)], size := 0, bytes := 0, zero := [] } := rfl
theorem t99 : T 99 = some { k := .func, size := 1, bytes := 8, zero := [.nilFunc] } := rfl
theorem t100 : T 100 = some { k := .int .u32, size := 1, bytes := 4, zero := [.int .u32 0] } := rfl
theorem t101 : T 101 = some { k := .int .u8, size := 1, bytes := 1, zero := [.int .u8 0] } := rfl
theorem t102 : T 102 = some { k := .int .u8, size := 1, bytes := 1, zero := [.int .u8 0] } := rfl
theorem t103 : T 103 = some { k := .func, size := 1, bytes := 8, zero := [.nilFunc] } := rfl
theorem t104 : T 104 = some { k := .ptr 5, size := 1, bytes := 8, zero := [.pointer none] } := rfl
theorem t105 : T 105 = some { k := .int .i32, size := 1, bytes := 4, zero := [.int .i32 0] } := rfl
theorem t106 : T 106 = some { k := .int .i32, size := 1, bytes := 4, zero := [.int .i32 0] } := rfl
theorem t107 : T 107 = some { k := .struct [(0, 12), (1, 12), (2, 100), (3, 101), (4, 5), (5, 5), (6, 102), (7, 103), (8, 104), (9, 105), (10, 106)], size := 11, bytes := 48, zero := [.int .u64 0, .int .u64 0, .int .u32 0, .int .u8 0, .int .u8 0, .int .u8 0, .int .u8 0, .nilFunc, .pointer none, .int .i32 0, .int .i32 0] } := rfl
theorem t108 : T 108 = some { k := .struct [(0, 12), (1, 12), (2, 100), (3, 101), (4, 5), (5, 5), (6, 102), (7, 103), (8, 104), (9, 105), (10, 106)], size := 11, bytes := 48, zero := [.int .u64 0, .int .u64 0, .int .u32 0, .int .u8 0, .int .u8 0, .int .u8 0, .int .u8 0, .nilFunc, .pointer none, .int .i32 0, .int .i32 0] } := rfl
end Go.Proofs.Ytappiofmkoelnaa.T
