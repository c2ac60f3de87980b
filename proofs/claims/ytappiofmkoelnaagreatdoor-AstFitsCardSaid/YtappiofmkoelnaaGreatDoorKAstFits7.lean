/-
  For AstFits: texts of the road to it, 8 of 16.
-/
import Derived.Test.YtappiofmkoelnaaGreatDoorKAstFits6
import Derived.Test.YtappiofmkoelnaaGreatDoorProg
section
namespace Go.Proofs.YtappiofmkoelnaaGreatDoor.T
open Go.Proofs.YtappiofmkoelnaaGreatDoorW.Ah
abbrev i1 : TI := { k := .func, size := 1, bytes := 8, zero := [.nilFunc] }
abbrev i2 : TI := { k := .int .i64, size := 1, bytes := 8, zero := [.int .i64 0] }
abbrev i3 : TI := { k := .int .i64, size := 1, bytes := 8, zero := [.int .i64 0] }
abbrev i4 : TI := { k := .bool, size := 1, bytes := 1, zero := [.bool false] }
abbrev i5 : TI := { k := .int .u8, size := 1, bytes := 1, zero := [.int .u8 0] }
abbrev i6 : TI := { k := .int .u8, size := 1, bytes := 1, zero := [.int .u8 0] }
abbrev i7 : TI := { k := .struct [(0, 2), (1, 3), (2, 4), (3, 6)], size := 4, bytes := 24, zero := [.int .i64 0, .int .i64 0, .bool false, .int .u8 0], eq := true }
abbrev i8 : TI := { k := .struct [(0, 2), (1, 3), (2, 4), (3, 6)], size := 4, bytes := 24, zero := [.int .i64 0, .int .i64 0, .bool false, .int .u8 0], eq := true }
abbrev i9 : TI := { k := .str, size := 1, bytes := 16, zero := [.string ⟨#[]⟩] }
abbrev i10 : TI := { k := .str, size := 1, bytes := 16, zero := [.string ⟨#[]⟩] }
abbrev i11 : TI := { k := .str, size := 1, bytes := 16, zero := [.string ⟨#[]⟩] }
abbrev i12 : TI := { k := .int .u64, size := 1, bytes := 8, zero := [.int .u64 0] }
abbrev i13 : TI := { k := .struct [(0, 9), (1, 12)], size := 2, bytes := 24, zero := [.string ⟨#[]⟩, .int .u64 0] }
abbrev i14 : TI := { k := .struct [(0, 9), (1, 12)], size := 2, bytes := 24, zero := [.string ⟨#[]⟩, .int .u64 0] }
abbrev i15 : TI := { k := .ptr 210, size := 1, bytes := 8, zero := [.pointer none] }
abbrev i16 : TI := { k := .ptr 213, size := 1, bytes := 8, zero := [.pointer none] }
abbrev i17 : TI := { k := .ptr 223, size := 1, bytes := 8, zero := [.pointer none] }
abbrev i18 : TI := { k := .struct [(0, 17)], size := 1, bytes := 8, zero := [.pointer none] }
abbrev i19 : TI := { k := .struct [(0, 17)], size := 1, bytes := 8, zero := [.pointer none] }
abbrev i21 : TI := { k := .int .i32, size := 1, bytes := 4, zero := [.int .i32 0] }
abbrev i22 : TI := { k := .slice 72, size := 1, bytes := 24, zero := [.slice none 0 0] }
abbrev i23 : TI := { k := .slice 77, size := 1, bytes := 24, zero := [.slice none 0 0] }
abbrev i24 : TI := { k := .slice 26, size := 1, bytes := 24, zero := [.slice none 0 0] }
abbrev i25 : TI := { k := .struct [(0, 3), (1, 9), (2, 24)], size := 3, bytes := 48, zero := [.int .i64 0, .string ⟨#[]⟩, .slice none 0 0] }
abbrev i26 : TI := { k := .struct [(0, 3), (1, 9), (2, 24)], size := 3, bytes := 48, zero := [.int .i64 0, .string ⟨#[]⟩, .slice none 0 0] }
abbrev i27 : TI := { k := .struct [(0, 3), (1, 3)], size := 2, bytes := 16, zero := [.int .i64 0, .int .i64 0], eq := true }
abbrev i28 : TI := { k := .struct [(0, 3), (1, 3)], size := 2, bytes := 16, zero := [.int .i64 0, .int .i64 0], eq := true }
abbrev i29 : TI := { k := .slice 5, size := 1, bytes := 24, zero := [.slice none 0 0] }
abbrev i30 : TI := { k := .slice 33, size := 1, bytes := 24, zero := [.slice none 0 0] }
abbrev i31 : TI := { k := .slice 68, size := 1, bytes := 24, zero := [.slice none 0 0] }
abbrev i32 : TI := { k := .struct [(0, 3), (1, 28), (3, 2), (4, 29), (5, 9), (6, 30), (7, 31)], size := 8, bytes := 120, zero := [.int .i64 0, .int .i64 0, .int .i64 0, .int .i64 0, .slice none 0 0, .string ⟨#[]⟩, .slice none 0 0, .slice none 0 0] }
abbrev i33 : TI := { k := .struct [(0, 3), (1, 28), (3, 2), (4, 29), (5, 9), (6, 30), (7, 31)], size := 8, bytes := 120, zero := [.int .i64 0, .int .i64 0, .int .i64 0, .int .i64 0, .slice none 0 0, .string ⟨#[]⟩, .slice none 0 0, .slice none 0 0] }
abbrev i34 : TI := { k := .slice 83, size := 1, bytes := 24, zero := [.slice none 0 0] }
abbrev i35 : TI := { k := .struct [(0, 22), (1, 23), (2, 3), (3, 3), (4, 26), (7, 3), (8, 33), (16, 34)], size := 17, bytes := 264, zero := [.slice none 0 0, .slice none 0 0, .int .i64 0, .int .i64 0, .int .i64 0, .string ⟨#[]⟩, .slice none 0 0, .int .i64 0, .int .i64 0, .int .i64 0, .int .i64 0, .int .i64 0, .slice none 0 0, .string ⟨#[]⟩, .slice none 0 0, .slice none 0 0, .slice none 0 0] }
abbrev i36 : TI := { k := .struct [(0, 22), (1, 23), (2, 3), (3, 3), (4, 26), (7, 3), (8, 33), (16, 34)], size := 17, bytes := 264, zero := [.slice none 0 0, .slice none 0 0, .int .i64 0, .int .i64 0, .int .i64 0, .string ⟨#[]⟩, .slice none 0 0, .int .i64 0, .int .i64 0, .int .i64 0, .int .i64 0, .int .i64 0, .slice none 0 0, .string ⟨#[]⟩, .slice none 0 0, .slice none 0 0, .slice none 0 0] }
abbrev i37 : TI := { k := .slice 39, size := 1, bytes := 24, zero := [.slice none 0 0] }
abbrev i38 : TI := { k := .struct [(0, 3), (1, 28), (3, 9), (4, 2), (5, 37)], size := 6, bytes := 72, zero := [.int .i64 0, .int .i64 0, .int .i64 0, .string ⟨#[]⟩, .int .i64 0, .slice none 0 0] }
abbrev i39 : TI := { k := .struct [(0, 3), (1, 28), (3, 9), (4, 2), (5, 37)], size := 6, bytes := 72, zero := [.int .i64 0, .int .i64 0, .int .i64 0, .string ⟨#[]⟩, .int .i64 0, .slice none 0 0] }
abbrev i40 : TI := { k := .func, size := 1, bytes := 8, zero := [.nilFunc] }
abbrev i41 : TI := { k := .func, size := 1, bytes := 8, zero := [.nilFunc] }
abbrev i42 : TI := { k := .func, size := 1, bytes := 8, zero := [.nilFunc] }
abbrev i43 : TI := { k := .func, size := 1, bytes := 8, zero := [.nilFunc] }
abbrev i44 : TI := { k := .func, size := 1, bytes := 8, zero := [.nilFunc] }
abbrev i45 : TI := { k := .func, size := 1, bytes := 8, zero := [.nilFunc] }
abbrev i46 : TI := { k := .func, size := 1, bytes := 8, zero := [.nilFunc] }
abbrev i47 : TI := { k := .func, size := 1, bytes := 8, zero := [.nilFunc] }
abbrev i48 : TI := { k := .func, size := 1, bytes := 8, zero := [.nilFunc] }
abbrev i49 : TI := { k := .func, size := 1, bytes := 8, zero := [.nilFunc] }
abbrev i50 : TI := { k := .func, size := 1, bytes := 8, zero := [.nilFunc] }
abbrev i51 : TI := { k := .slice 4, size := 1, bytes := 24, zero := [.slice none 0 0] }
abbrev i52 : TI := { k := .func, size := 1, bytes := 8, zero := [.nilFunc] }
abbrev i53 : TI := { k := .int .i64, size := 1, bytes := 8, zero := [.int .i64 0] }
abbrev i54 : TI := { k := .struct [(0, 53), (1, 28)], size := 3, bytes := 24, zero := [.int .i64 0, .int .i64 0, .int .i64 0], eq := true }
abbrev i55 : TI := { k := .struct [(0, 53), (1, 28)], size := 3, bytes := 24, zero := [.int .i64 0, .int .i64 0, .int .i64 0], eq := true }
abbrev i56 : TI := { k := .func, size := 1, bytes := 8, zero := [.nilFunc] }
abbrev i57 : TI := { k := .func, size := 1, bytes := 8, zero := [.nilFunc] }
abbrev i58 : TI := { k := .func, size := 1, bytes := 8, zero := [.nilFunc] }
abbrev i60 : TI := { k := .func, size := 1, bytes := 8, zero := [.nilFunc] }
abbrev i61 : TI := { k := .slice 9, size := 1, bytes := 24, zero := [.slice none 0 0] }
abbrev i62 : TI := { k := .func, size := 1, bytes := 8, zero := [.nilFunc] }
abbrev i63 : TI := { k := .func, size := 1, bytes := 8, zero := [.nilFunc] }
abbrev i64 : TI := { k := .func, size := 1, bytes := 8, zero := [.nilFunc] }
abbrev i65 : TI := { k := .func, size := 1, bytes := 8, zero := [.nilFunc] }
abbrev i66 : TI := { k := .func, size := 1, bytes := 8, zero := [.nilFunc] }
abbrev i67 : TI := { k := .struct [(0, 39), (6, 33)], size := 14, bytes := 192, zero := [.int .i64 0, .int .i64 0, .int .i64 0, .string ⟨#[]⟩, .int .i64 0, .slice none 0 0, .int .i64 0, .int .i64 0, .int .i64 0, .int .i64 0, .slice none 0 0, .string ⟨#[]⟩, .slice none 0 0, .slice none 0 0] }
abbrev i68 : TI := { k := .struct [(0, 39), (6, 33)], size := 14, bytes := 192, zero := [.int .i64 0, .int .i64 0, .int .i64 0, .string ⟨#[]⟩, .int .i64 0, .slice none 0 0, .int .i64 0, .int .i64 0, .int .i64 0, .int .i64 0, .slice none 0 0, .string ⟨#[]⟩, .slice none 0 0, .slice none 0 0] }
abbrev i69 : TI := { k := .func, size := 1, bytes := 8, zero := [.nilFunc] }
abbrev i70 : TI := { k := .slice 92, size := 1, bytes := 24, zero := [.slice none 0 0] }
abbrev i71 : TI := { k := .struct [(0, 28), (2, 9), (3, 70)], size := 4, bytes := 56, zero := [.int .i64 0, .int .i64 0, .string ⟨#[]⟩, .slice none 0 0] }
abbrev i72 : TI := { k := .struct [(0, 28), (2, 9), (3, 70)], size := 4, bytes := 56, zero := [.int .i64 0, .int .i64 0, .string ⟨#[]⟩, .slice none 0 0] }
abbrev i73 : TI := { k := .func, size := 1, bytes := 8, zero := [.nilFunc] }
abbrev i74 : TI := { k := .func, size := 1, bytes := 8, zero := [.nilFunc] }
abbrev i75 : TI := { k := .slice 81, size := 1, bytes := 24, zero := [.slice none 0 0] }
abbrev i76 : TI := { k := .struct [(0, 28), (2, 9), (3, 75), (4, 26), (7, 33)], size := 15, bytes := 224, zero := [.int .i64 0, .int .i64 0, .string ⟨#[]⟩, .slice none 0 0, .int .i64 0, .string ⟨#[]⟩, .slice none 0 0, .int .i64 0, .int .i64 0, .int .i64 0, .int .i64 0, .slice none 0 0, .string ⟨#[]⟩, .slice none 0 0, .slice none 0 0] }
abbrev i77 : TI := { k := .struct [(0, 28), (2, 9), (3, 75), (4, 26), (7, 33)], size := 15, bytes := 224, zero := [.int .i64 0, .int .i64 0, .string ⟨#[]⟩, .slice none 0 0, .int .i64 0, .string ⟨#[]⟩, .slice none 0 0, .int .i64 0, .int .i64 0, .int .i64 0, .int .i64 0, .slice none 0 0, .string ⟨#[]⟩, .slice none 0 0, .slice none 0 0] }
abbrev i78 : TI := { k := .func, size := 1, bytes := 8, zero := [.nilFunc] }
abbrev i79 : TI := { k := .func, size := 1, bytes := 8, zero := [.nilFunc] }
abbrev i80 : TI := { k := .struct [(0, 9), (1, 26)], size := 4, bytes := 64, zero := [.string ⟨#[]⟩, .int .i64 0, .string ⟨#[]⟩, .slice none 0 0] }
abbrev i81 : TI := { k := .struct [(0, 9), (1, 26)], size := 4, bytes := 64, zero := [.string ⟨#[]⟩, .int .i64 0, .string ⟨#[]⟩, .slice none 0 0] }
abbrev i82 : TI := { k := .struct [(0, 28), (2, 9), (3, 81), (7, 3), (8, 33)], size := 16, bytes := 224, zero := [.int .i64 0, .int .i64 0, .string ⟨#[]⟩, .string ⟨#[]⟩, .int .i64 0, .string ⟨#[]⟩, .slice none 0 0, .int .i64 0, .int .i64 0, .int .i64 0, .int .i64 0, .int .i64 0, .slice none 0 0, .string ⟨#[]⟩, .slice none 0 0, .slice none 0 0] }
abbrev i83 : TI := { k := .struct [(0, 28), (2, 9), (3, 81), (7, 3), (8, 33)], size := 16, bytes := 224, zero := [.int .i64 0, .int .i64 0, .string ⟨#[]⟩, .string ⟨#[]⟩, .int .i64 0, .string ⟨#[]⟩, .slice none 0 0, .int .i64 0, .int .i64 0, .int .i64 0, .int .i64 0, .int .i64 0, .slice none 0 0, .string ⟨#[]⟩, .slice none 0 0, .slice none 0 0] }
abbrev i84 : TI := { k := .func, size := 1, bytes := 8, zero := [.nilFunc] }
abbrev i85 : TI := { k := .func, size := 1, bytes := 8, zero := [.nilFunc] }
abbrev i86 : TI := { k := .func, size := 1, bytes := 8, zero := [.nilFunc] }
abbrev i87 : TI := { k := .int .i64, size := 1, bytes := 8, zero := [.int .i64 0] }
abbrev i88 : TI := { k := .func, size := 1, bytes := 8, zero := [.nilFunc] }
abbrev i89 : TI := { k := .func, size := 1, bytes := 8, zero := [.nilFunc] }
abbrev i90 : TI := { k := .func, size := 1, bytes := 8, zero := [.nilFunc] }
abbrev i91 : TI := { k := .struct [(0, 9), (1, 24)], size := 2, bytes := 40, zero := [.string ⟨#[]⟩, .slice none 0 0] }
abbrev i92 : TI := { k := .struct [(0, 9), (1, 24)], size := 2, bytes := 40, zero := [.string ⟨#[]⟩, .slice none 0 0] }
abbrev i94 : TI := { k := .func, size := 1, bytes := 8, zero := [.nilFunc] }
abbrev i95 : TI := { k := .func, size := 1, bytes := 8, zero := [.nilFunc] }
abbrev i96 : TI := { k := .ptr 99, size := 1, bytes := 8, zero := [.pointer none] }
abbrev i97 : TI := { k := .map 9 3, size := 1, bytes := 8, zero := [.map none] }
abbrev i98 : TI := { k := .struct [(0, 22), (1, 97), (2, 51)], size := 3, bytes := 56, zero := [.slice none 0 0, .map none, .slice none 0 0] }
abbrev i99 : TI := { k := .struct [(0, 22), (1, 97), (2, 51)], size := 3, bytes := 56, zero := [.slice none 0 0, .map none, .slice none 0 0] }
abbrev i100 : TI := { k := .func, size := 1, bytes := 8, zero := [.nilFunc] }
abbrev i101 : TI := { k := .func, size := 1, bytes := 8, zero := [.nilFunc] }
abbrev i102 : TI := { k := .func, size := 1, bytes := 8, zero := [.nilFunc] }
abbrev i103 : TI := { k := .func, size := 1, bytes := 8, zero := [.nilFunc] }
abbrev i104 : TI := { k := .func, size := 1, bytes := 8, zero := [.nilFunc] }
abbrev i105 : TI := { k := .func, size := 1, bytes := 8, zero := [.nilFunc] }
abbrev i106 : TI := { k := .func, size := 1, bytes := 8, zero := [.nilFunc] }
abbrev i107 : TI := { k := .map 9 4, size := 1, bytes := 8, zero := [.map none] }
abbrev i108 : TI := { k := .func, size := 1, bytes := 8, zero := [.nilFunc] }
abbrev i109 : TI := { k := .func, size := 1, bytes := 8, zero := [.nilFunc] }
abbrev i110 : TI := { k := .func, size := 1, bytes := 8, zero := [.nilFunc] }
abbrev i111 : TI := { k := .func, size := 1, bytes := 8, zero := [.nilFunc] }
abbrev i112 : TI := { k := .func, size := 1, bytes := 8, zero := [.nilFunc] }
abbrev i113 : TI := { k := .func, size := 1, bytes := 8, zero := [.nilFunc] }
abbrev i114 : TI := { k := .func, size := 1, bytes := 8, zero := [.nilFunc] }
abbrev i115 : TI := { k := .func, size := 1, bytes := 8, zero := [.nilFunc] }
abbrev i116 : TI := { k := .func, size := 1, bytes := 8, zero := [.nilFunc] }
abbrev i117 : TI := { k := .func, size := 1, bytes := 8, zero := [.nilFunc] }
abbrev i118 : TI := { k := .func, size := 1, bytes := 8, zero := [.nilFunc] }
abbrev i119 : TI := { k := .func, size := 1, bytes := 8, zero := [.nilFunc] }
abbrev i120 : TI := { k := .func, size := 1, bytes := 8, zero := [.nilFunc] }
abbrev i121 : TI := { k := .func, size := 1, bytes := 8, zero := [.nilFunc] }
abbrev i122 : TI := { k := .func, size := 1, bytes := 8, zero := [.nilFunc] }
abbrev i123 : TI := { k := .func, size := 1, bytes := 8, zero := [.nilFunc] }
abbrev i124 : TI := { k := .func, size := 1, bytes := 8, zero := [.nilFunc] }
abbrev i125 : TI := { k := .ptr 127, size := 1, bytes := 8, zero := [.pointer none] }
abbrev i126 : TI := { k := .struct [(0, 97), (1, 61)], size := 2, bytes := 32, zero := [.map none, .slice none 0 0] }
abbrev i127 : TI := { k := .struct [(0, 97), (1, 61)], size := 2, bytes := 32, zero := [.map none, .slice none 0 0] }
abbrev i128 : TI := { k := .func, size := 1, bytes := 8, zero := [.nilFunc] }
abbrev i129 : TI := { k := .func, size := 1, bytes := 8, zero := [.nilFunc] }
abbrev i130 : TI := { k := .func, size := 1, bytes := 8, zero := [.nilFunc] }
abbrev i131 : TI := { k := .func, size := 1, bytes := 8, zero := [.nilFunc] }
abbrev i132 : TI := { k := .func, size := 1, bytes := 8, zero := [.nilFunc] }
abbrev i133 : TI := { k := .func, size := 1, bytes := 8, zero := [.nilFunc] }
abbrev i134 : TI := { k := .func, size := 1, bytes := 8, zero := [.nilFunc] }
abbrev i135 : TI := { k := .func, size := 1, bytes := 8, zero := [.nilFunc] }
abbrev i136 : TI := { k := .func, size := 1, bytes := 8, zero := [.nilFunc] }
abbrev i137 : TI := { k := .func, size := 1, bytes := 8, zero := [.nilFunc] }
abbrev i138 : TI := { k := .func, size := 1, bytes := 8, zero := [.nilFunc] }
abbrev i139 : TI := { k := .func, size := 1, bytes := 8, zero := [.nilFunc] }
abbrev i140 : TI := { k := .func, size := 1, bytes := 8, zero := [.nilFunc] }
abbrev i141 : TI := { k := .func, size := 1, bytes := 8, zero := [.nilFunc] }
abbrev i142 : TI := { k := .func, size := 1, bytes := 8, zero := [.nilFunc] }
abbrev i143 : TI := { k := .func, size := 1, bytes := 8, zero := [.nilFunc] }
abbrev i144 : TI := { k := .func, size := 1, bytes := 8, zero := [.nilFunc] }
abbrev i145 : TI := { k := .func, size := 1, bytes := 8, zero := [.nilFunc] }
abbrev i146 : TI := { k := .func, size := 1, bytes := 8, zero := [.nilFunc] }
abbrev i147 : TI := { k := .func, size := 1, bytes := 8, zero := [.nilFunc] }
abbrev i148 : TI := { k := .func, size := 1, bytes := 8, zero := [.nilFunc] }
abbrev i150 : TI := { k := .func, size := 1, bytes := 8, zero := [.nilFunc] }
abbrev i151 : TI := { k := .func, size := 1, bytes := 8, zero := [.nilFunc] }
abbrev i152 : TI := { k := .struct [(0, 4), (1, 4), (2, 4), (3, 3), (4, 3), (5, 4)], size := 6, bytes := 32, zero := [.bool false, .bool false, .bool false, .int .i64 0, .int .i64 0, .bool false], eq := true }
abbrev i153 : TI := { k := .struct [(0, 4), (1, 4), (2, 4), (3, 3), (4, 3), (5, 4)], size := 6, bytes := 32, zero := [.bool false, .bool false, .bool false, .int .i64 0, .int .i64 0, .bool false], eq := true }
abbrev i155 : TI := { k := .func, size := 1, bytes := 8, zero := [.nilFunc] }
abbrev i156 : TI := { k := .func, size := 1, bytes := 8, zero := [.nilFunc] }
abbrev i157 : TI := { k := .func, size := 1, bytes := 8, zero := [.nilFunc] }
abbrev i158 : TI := { k := .func, size := 1, bytes := 8, zero := [.nilFunc] }
abbrev i159 : TI := { k := .func, size := 1, bytes := 8, zero := [.nilFunc] }
abbrev i160 : TI := { k := .func, size := 1, bytes := 8, zero := [.nilFunc] }
abbrev i161 : TI := { k := .func, size := 1, bytes := 8, zero := [.nilFunc] }
abbrev i162 : TI := { k := .func, size := 1, bytes := 8, zero := [.nilFunc] }
abbrev i163 : TI := { k := .func, size := 1, bytes := 8, zero := [.nilFunc] }
abbrev i164 : TI := { k := .func, size := 1, bytes := 8, zero := [.nilFunc] }
abbrev i165 : TI := { k := .func, size := 1, bytes := 8, zero := [.nilFunc] }
abbrev i166 : TI := { k := .func, size := 1, bytes := 8, zero := [.nilFunc] }
abbrev i167 : TI := { k := .func, size := 1, bytes := 8, zero := [.nilFunc] }
abbrev i168 : TI := { k := .func, size := 1, bytes := 8, zero := [.nilFunc] }
abbrev i169 : TI := { k := .func, size := 1, bytes := 8, zero := [.nilFunc] }
abbrev i170 : TI := { k := .func, size := 1, bytes := 8, zero := [.nilFunc] }
abbrev i171 : TI := { k := .func, size := 1, bytes := 8, zero := [.nilFunc] }
abbrev i172 : TI := { k := .func, size := 1, bytes := 8, zero := [.nilFunc] }
abbrev i173 : TI := { k := .func, size := 1, bytes := 8, zero := [.nilFunc] }
abbrev i174 : TI := { k := .func, size := 1, bytes := 8, zero := [.nilFunc] }
abbrev i175 : TI := { k := .func, size := 1, bytes := 8, zero := [.nilFunc] }
abbrev i176 : TI := { k := .func, size := 1, bytes := 8, zero := [.nilFunc] }
abbrev i177 : TI := { k := .func, size := 1, bytes := 8, zero := [.nilFunc] }
abbrev i178 : TI := { k := .func, size := 1, bytes := 8, zero := [.nilFunc] }
abbrev i179 : TI := { k := .func, size := 1, bytes := 8, zero := [.nilFunc] }
abbrev i180 : TI := { k := .func, size := 1, bytes := 8, zero := [.nilFunc] }
abbrev i181 : TI := { k := .func, size := 1, bytes := 8, zero := [.nilFunc] }
abbrev i182 : TI := { k := .func, size := 1, bytes := 8, zero := [.nilFunc] }
abbrev i184 : TI := { k := .func, size := 1, bytes := 8, zero := [.nilFunc] }
abbrev i185 : TI := { k := .int .u64, size := 1, bytes := 8, zero := [.int .u64 0] }
abbrev i186 : TI := { k := .func, size := 1, bytes := 8, zero := [.nilFunc] }
abbrev i187 : TI := { k := .func, size := 1, bytes := 8, zero := [.nilFunc] }
abbrev i188 : TI := { k := .func, size := 1, bytes := 8, zero := [.nilFunc] }
abbrev i189 : TI := { k := .func, size := 1, bytes := 8, zero := [.nilFunc] }
abbrev i190 : TI := { k := .func, size := 1, bytes := 8, zero := [.nilFunc] }
abbrev i191 : TI := { k := .func, size := 1, bytes := 8, zero := [.nilFunc] }
abbrev i193 : TI := { k := .func, size := 1, bytes := 8, zero := [.nilFunc] }
abbrev i194 : TI := { k := .func, size := 1, bytes := 8, zero := [.nilFunc] }
abbrev i195 : TI := { k := .func, size := 1, bytes := 8, zero := [.nilFunc] }
abbrev i196 : TI := { k := .func, size := 1, bytes := 8, zero := [.nilFunc] }
abbrev i197 : TI := { k := .func, size := 1, bytes := 8, zero := [.nilFunc] }
abbrev i198 : TI := { k := .func, size := 1, bytes := 8, zero := [.nilFunc] }
abbrev i199 : TI := { k := .func, size := 1, bytes := 8, zero := [.nilFunc] }
abbrev i200 : TI := { k := .func, size := 1, bytes := 8, zero := [.nilFunc] }
abbrev i201 : TI := { k := .func, size := 1, bytes := 8, zero := [.nilFunc] }
abbrev i202 : TI := { k := .func, size := 1, bytes := 8, zero := [.nilFunc] }
abbrev i204 : TI := { k := .struct [(0, 5), (1, 5)], size := 2, bytes := 2, zero := [.int .u8 0, .int .u8 0], eq := true }
abbrev i205 : TI := { k := .struct [(0, 5), (1, 5)], size := 2, bytes := 2, zero := [.int .u8 0, .int .u8 0], eq := true }
abbrev i206 : TI := { k := .arr 16 205, size := 32, bytes := 32, zero := List.replicate 32 (.int .u8 0), eq := true }
abbrev i207 : TI := { k := .int .u64, size := 1, bytes := 8, zero := [.int .u64 0] }
abbrev i208 : TI := { k := .func, size := 1, bytes := 8, zero := [.nilFunc] }
abbrev i209 : TI := { k := .struct [(0, 17), (1, 17), (2, 17), (3, 9)], size := 4, bytes := 40, zero := [.pointer none, .pointer none, .pointer none, .string ⟨#[]⟩] }
abbrev i210 : TI := { k := .struct [(0, 17), (1, 17), (2, 17), (3, 9)], size := 4, bytes := 40, zero := [.pointer none, .pointer none, .pointer none, .string ⟨#[]⟩] }
abbrev i211 : TI := { k := .arr 0 16, size := 0, bytes := 0, zero := [] }
abbrev i212 : TI := { k := .struct [(0, 211)], size := 0, bytes := 0, zero := [] }
abbrev i213 : TI := { k := .struct [(0, 211)], size := 0, bytes := 0, zero := [] }
abbrev i214 : TI := { k := .func, size := 1, bytes := 8, zero := [.nilFunc] }
abbrev i215 : TI := { k := .int .u32, size := 1, bytes := 4, zero := [.int .u32 0] }
abbrev i216 : TI := { k := .int .u8, size := 1, bytes := 1, zero := [.int .u8 0] }
abbrev i217 : TI := { k := .int .u8, size := 1, bytes := 1, zero := [.int .u8 0] }
abbrev i218 : TI := { k := .func, size := 1, bytes := 8, zero := [.nilFunc] }
abbrev i219 : TI := { k := .ptr 5, size := 1, bytes := 8, zero := [.pointer none] }
abbrev i220 : TI := { k := .int .i32, size := 1, bytes := 4, zero := [.int .i32 0] }
abbrev i221 : TI := { k := .int .i32, size := 1, bytes := 4, zero := [.int .i32 0] }
abbrev i222 : TI := { k := .struct [(0, 12), (1, 12), (2, 215), (3, 216), (4, 5), (5, 5), (6, 217), (7, 218), (8, 219), (9, 220), (10, 221)], size := 11, bytes := 48, zero := [.int .u64 0, .int .u64 0, .int .u32 0, .int .u8 0, .int .u8 0, .int .u8 0, .int .u8 0, .nilFunc, .pointer none, .int .i32 0, .int .i32 0] }
abbrev i223 : TI := { k := .struct [(0, 12), (1, 12), (2, 215), (3, 216), (4, 5), (5, 5), (6, 217), (7, 218), (8, 219), (9, 220), (10, 221)], size := 11, bytes := 48, zero := [.int .u64 0, .int .u64 0, .int .u32 0, .int .u8 0, .int .u8 0, .int .u8 0, .int .u8 0, .nilFunc, .pointer none, .int .i32 0, .int .i32 0] }
def L : List (Nat × TI) := [(1, i1), (2, i2), (3, i3), (4, i4), (5, i5), (6, i6), (7, i7), (8, i8), (9, i9), (10, i10), (11, i11), (12, i12), (13, i13), (14, i14), (15, i15), (16, i16), (17, i17), (18, i18), (19, i19), (21, i21), (22, i22), (23, i23), (24, i24), (25, i25), (26, i26), (27, i27), (28, i28), (29, i29), (30, i30), (31, i31), (32, i32), (33, i33), (34, i34), (35, i35), (36, i36), (37, i37), (38, i38), (39, i39), (40, i40), (41, i41), (42, i42), (43, i43), (44, i44), (45, i45), (46, i46), (47, i47), (48, i48), (49, i49), (50, i50), (51, i51), (52, i52), (53, i53), (54, i54), (55, i55), (56, i56), (57, i57), (58, i58), (60, i60), (61, i61), (62, i62), (63, i63), (64, i64), (65, i65), (66, i66), (67, i67), (68, i68), (69, i69), (70, i70), (71, i71), (72, i72), (73, i73), (74, i74), (75, i75), (76, i76), (77, i77), (78, i78), (79, i79), (80, i80), (81, i81), (82, i82), (83, i83), (84, i84), (85, i85), (86, i86), (87, i87), (88, i88), (89, i89), (90, i90), (91, i91), (92, i92), (94, i94), (95, i95), (96, i96), (97, i97), (98, i98), (99, i99), (100, i100), (101, i101), (102, i102), (103, i103), (104, i104), (105, i105), (106, i106), (107, i107), (108, i108), (109, i109), (110, i110), (111, i111), (112, i112), (113, i113), (114, i114), (115, i115), (116, i116), (117, i117), (118, i118), (119, i119), (120, i120), (121, i121), (122, i122), (123, i123), (124, i124), (125, i125), (126, i126), (127, i127), (128, i128), (129, i129), (130, i130), (131, i131), (132, i132), (133, i133), (134, i134), (135, i135), (136, i136), (137, i137), (138, i138), (139, i139), (140, i140), (141, i141), (142, i142), (143, i143), (144, i144), (145, i145), (146, i146), (147, i147), (148, i148), (150, i150), (151, i151), (152, i152), (153, i153), (155, i155), (156, i156), (157, i157), (158, i158), (159, i159), (160, i160), (161, i161), (162, i162), (163, i163), (164, i164), (165, i165), (166, i166), (167, i167), (168, i168), (169, i169), (170, i170), (171, i171), (172, i172), (173, i173), (174, i174), (175, i175), (176, i176), (177, i177), (178, i178), (179, i179), (180, i180), (181, i181), (182, i182), (184, i184), (185, i185), (186, i186), (187, i187), (188, i188), (189, i189), (190, i190), (191, i191), (193, i193), (194, i194), (195, i195), (196, i196), (197, i197), (198, i198), (199, i199), (200, i200), (201, i201), (202, i202), (204, i204), (205, i205), (206, i206), (207, i207), (208, i208), (209, i209), (210, i210), (211, i211), (212, i212), (213, i213), (214, i214), (215, i215), (216, i216), (217, i217), (218, i218), (219, i219), (220, i220), (221, i221), (222, i222), (223, i223)]
def T : Tab := tabOf L
theorem ok : TOk Tryz.prog T := tabOk (by kernel_rfl)
theorem t1 : T 1 = some { k := .func, size := 1, bytes := 8, zero := [.nilFunc] } := rfl
theorem t2 : T 2 = some { k := .int .i64, size := 1, bytes := 8, zero := [.int .i64 0] } := rfl
theorem t3 : T 3 = some { k := .int .i64, size := 1, bytes := 8, zero := [.int .i64 0] } := rfl
theorem t4 : T 4 = some { k := .bool, size := 1, bytes := 1, zero := [.bool false] } := rfl
theorem t5 : T 5 = some { k := .int .u8, size := 1, bytes := 1, zero := [.int .u8 0] } := rfl
theorem t9 : T 9 = some { k := .str, size := 1, bytes := 16, zero := [.string ⟨#[]⟩] } := rfl
theorem t12 : T 12 = some { k := .int .u64, size := 1, bytes := 8, zero := [.int .u64 0] } := rfl
theorem t21 : T 21 = some { k := .int .i32, size := 1, bytes := 4, zero := [.int .i32 0] } := rfl
theorem t22 : T 22 = some { k := .slice 72, size := 1, bytes := 24, zero := [.slice none 0 0] } := rfl
theorem t23 : T 23 = some { k := .slice 77, size := 1, bytes := 24, zero := [.slice none 0 0] } := rfl
theorem t24 : T 24 = some { k := .slice 26, size := 1, bytes := 24, zero := [.slice none 0 0] } := rfl
theorem t26 : T 26 = some { k := .struct [(0, 3), (1, 9), (2, 24)], size := 3, bytes := 48, zero := [.int .i64 0, .string ⟨#[]⟩, .slice none 0 0] } := rfl
theorem t28 : T 28 = some { k := .struct [(0, 3), (1, 3)], size := 2, bytes := 16, zero := [.int .i64 0, .int .i64 0], eq := true } := rfl
theorem t29 : T 29 = some { k := .slice 5, size := 1, bytes := 24, zero := [.slice none 0 0] } := rfl
theorem t30 : T 30 = some { k := .slice 33, size := 1, bytes := 24, zero := [.slice none 0 0] } := rfl
theorem t31 : T 31 = some { k := .slice 68, size := 1, bytes := 24, zero := [.slice none 0 0] } := rfl
theorem t33 : T 33 = some { k := .struct [(0, 3), (1, 28), (3, 2), (4, 29), (5, 9), (6, 30), (7, 31)], size := 8, bytes := 120, zero := [.int .i64 0, .int .i64 0, .int .i64 0, .int .i64 0, .slice none 0 0, .string ⟨#[]⟩, .slice none 0 0, .slice none 0 0] } := rfl
theorem t34 : T 34 = some { k := .slice 83, size := 1, bytes := 24, zero := [.slice none 0 0] } := rfl
theorem t36 : T 36 = some { k := .struct [(0, 22), (1, 23), (2, 3), (3, 3), (4, 26), (7, 3), (8, 33), (16, 34)], size := 17, bytes := 264, zero := [.slice none 0 0, .slice none 0 0, .int .i64 0, .int .i64 0, .int .i64 0, .string ⟨#[]⟩, .slice none 0 0, .int .i64 0, .int .i64 0, .int .i64 0, .int .i64 0, .int .i64 0, .slice none 0 0, .string ⟨#[]⟩, .slice none 0 0, .slice none 0 0, .slice none 0 0] } := rfl
theorem t37 : T 37 = some { k := .slice 39, size := 1, bytes := 24, zero := [.slice none 0 0] } := rfl
theorem t39 : T 39 = some { k := .struct [(0, 3), (1, 28), (3, 9), (4, 2), (5, 37)], size := 6, bytes := 72, zero := [.int .i64 0, .int .i64 0, .int .i64 0, .string ⟨#[]⟩, .int .i64 0, .slice none 0 0] } := rfl
theorem t45 : T 45 = some { k := .func, size := 1, bytes := 8, zero := [.nilFunc] } := rfl
theorem t46 : T 46 = some { k := .func, size := 1, bytes := 8, zero := [.nilFunc] } := rfl
theorem t47 : T 47 = some { k := .func, size := 1, bytes := 8, zero := [.nilFunc] } := rfl
theorem t53 : T 53 = some { k := .int .i64, size := 1, bytes := 8, zero := [.int .i64 0] } := rfl
theorem t68 : T 68 = some { k := .struct [(0, 39), (6, 33)], size := 14, bytes := 192, zero := [.int .i64 0, .int .i64 0, .int .i64 0, .string ⟨#[]⟩, .int .i64 0, .slice none 0 0, .int .i64 0, .int .i64 0, .int .i64 0, .int .i64 0, .slice none 0 0, .string ⟨#[]⟩, .slice none 0 0, .slice none 0 0] } := rfl
theorem t70 : T 70 = some { k := .slice 92, size := 1, bytes := 24, zero := [.slice none 0 0] } := rfl
theorem t72 : T 72 = some { k := .struct [(0, 28), (2, 9), (3, 70)], size := 4, bytes := 56, zero := [.int .i64 0, .int .i64 0, .string ⟨#[]⟩, .slice none 0 0] } := rfl
theorem t73 : T 73 = some { k := .func, size := 1, bytes := 8, zero := [.nilFunc] } := rfl
theorem t75 : T 75 = some { k := .slice 81, size := 1, bytes := 24, zero := [.slice none 0 0] } := rfl
theorem t77 : T 77 = some { k := .struct [(0, 28), (2, 9), (3, 75), (4, 26), (7, 33)], size := 15, bytes := 224, zero := [.int .i64 0, .int .i64 0, .string ⟨#[]⟩, .slice none 0 0, .int .i64 0, .string ⟨#[]⟩, .slice none 0 0, .int .i64 0, .int .i64 0, .int .i64 0, .int .i64 0, .slice none 0 0, .string ⟨#[]⟩, .slice none 0 0, .slice none 0 0] } := rfl
theorem t78 : T 78 = some { k := .func, size := 1, bytes := 8, zero := [.nilFunc] } := rfl
theorem t81 : T 81 = some { k := .struct [(0, 9), (1, 26)], size := 4, bytes := 64, zero := [.string ⟨#[]⟩, .int .i64 0, .string ⟨#[]⟩, .slice none 0 0] } := rfl
theorem t83 : T 83 = some { k := .struct [(0, 28), (2, 9), (3, 81), (7, 3), (8, 33)], size := 16, bytes := 224, zero := [.int .i64 0, .int .i64 0, .string ⟨#[]⟩, .string ⟨#[]⟩, .int .i64 0, .string ⟨#[]⟩, .slice none 0 0, .int .i64 0, .int .i64 0, .int .i64 0, .int .i64 0, .int .i64 0, .slice none 0 0, .string ⟨#[]⟩, .slice none 0 0, .slice none 0 0] } := rfl
theorem t84 : T 84 = some { k := .func, size := 1, bytes := 8, zero := [.nilFunc] } := rfl
theorem t86 : T 86 = some { k := .func, size := 1, bytes := 8, zero := [.nilFunc] } := rfl
theorem t87 : T 87 = some { k := .int .i64, size := 1, bytes := 8, zero := [.int .i64 0] } := rfl
theorem t92 : T 92 = some { k := .struct [(0, 9), (1, 24)], size := 2, bytes := 40, zero := [.string ⟨#[]⟩, .slice none 0 0] } := rfl
theorem t105 : T 105 = some { k := .func, size := 1, bytes := 8, zero := [.nilFunc] } := rfl
theorem t119 : T 119 = some { k := .func, size := 1, bytes := 8, zero := [.nilFunc] } := rfl
theorem t138 : T 138 = some { k := .func, size := 1, bytes := 8, zero := [.nilFunc] } := rfl
theorem t139 : T 139 = some { k := .func, size := 1, bytes := 8, zero := [.nilFunc] } := rfl
theorem t153 : T 153 = some { k := .struct [(0, 4), (1, 4), (2, 4), (3, 3), (4, 3), (5, 4)], size := 6, bytes := 32, zero := [.bool false, .bool false, .bool false, .int .i64 0, .int .i64 0, .bool false], eq := true } := rfl
theorem t157 : T 157 = some { k := .func, size := 1, bytes := 8, zero := [.nilFunc] } := rfl
theorem t185 : T 185 = some { k := .int .u64, size := 1, bytes := 8, zero := [.int .u64 0] } := rfl
end Go.Proofs.YtappiofmkoelnaaGreatDoor.T
end
section
namespace Go.Proofs.YtappiofmkoelnaaGreatDoorW.Ah
set_option linter.unusedVariables false
set_option linter.unusedSimpArgs false
section
variable (P : Program) (T : Tab)
def EvQ (k : Nat) (c : Code) (s : St) (Q : Ex → St → Prop) : Prop := ∃ e s', Ev P T k c s e s' ∧ Q e s'
def EvLQ (k : Nat) (G : Array Oper) (l : List Oper) (s : St) (Q : St → Prop) : Prop := ∃ s', EvL P T k G l s s' ∧ Q s'
def RunF (f : FuncId) (args : List AV) (r : AV) : Prop := ∃ H' n', Run P T f args (fun _ => none) 0 r H' n'
def RunQ (f : FuncId) (args : List AV) (H : Nat → Option Blk) (n : Nat) (Q : AV → (Nat → Option Blk) → Nat → Prop) : Prop := ∃ r H' n', Run P T f args H n r H' n' ∧ Q r H' n'
end
def thenQ (K : St → Prop) (Q : Ex → St → Prop) : Ex → St → Prop
  | .normal, s => K s
  | e, s => Q e s
def blockQ (id : Nat) (Q : Ex → St → Prop) : Ex → St → Prop
  | .exit j, s => if j = id then Q .normal s else Q (.exit j) s
  | e, s => Q e s
@[simp] theorem thenQ_normal {K : St → Prop} {Q : Ex → St → Prop} {s : St} : thenQ K Q .normal s = K s := rfl
@[simp] theorem thenQ_ret {K : St → Prop} {Q : Ex → St → Prop} {s : St} : thenQ K Q .ret s = Q .ret s := rfl
@[simp] theorem thenQ_exit {K : St → Prop} {Q : Ex → St → Prop} {s : St} {i : Nat} : thenQ K Q (.exit i) s = Q (.exit i) s := rfl
@[simp] theorem thenQ_goto {K : St → Prop} {Q : Ex → St → Prop} {s : St} {i : Nat} : thenQ K Q (.goto i) s = Q (.goto i) s := rfl
@[simp] theorem blockQ_normal {Q : Ex → St → Prop} {s : St} {i : Nat} : blockQ i Q .normal s = Q .normal s := rfl
@[simp] theorem blockQ_ret {Q : Ex → St → Prop} {s : St} {i : Nat} : blockQ i Q .ret s = Q .ret s := rfl
@[simp] theorem blockQ_goto {Q : Ex → St → Prop} {s : St} {i j : Nat} : blockQ i Q (.goto j) s = Q (.goto j) s := rfl
@[simp] theorem blockQ_exit {Q : Ex → St → Prop} {s : St} {i j : Nat} : blockQ i Q (.exit j) s = if j = i then Q .normal s else Q (.exit j) s := rfl
section
variable {P : Program} {T : Tab} {k : Nat} {s : St} {Q : Ex → St → Prop}
theorem EvQ.skip (h : Q .normal s) : EvQ P T k .skip s Q := ⟨_, _, .skip, h⟩
theorem EvQ.label {l : Nat} (h : Q .normal s) : EvQ P T k (.label l) s Q := ⟨_, _, .label, h⟩
theorem EvQ.exit {id : Nat} (h : Q (.exit id) s) : EvQ P T k (.exit id) s Q := ⟨_, _, .exit, h⟩
theorem EvQ.goto {l : Nat} (h : Q (.goto l) s) : EvQ P T k (.goto l) s Q := ⟨_, _, .goto, h⟩
theorem EvQ.ret (h : Q .ret s) : EvQ P T k .ret s Q := ⟨_, _, .ret, h⟩
theorem EvQ.region {id : Nat} {ops : Array Oper} (h : EvLQ P T k ops ops.toList s (Q .normal)) : EvQ P T k (.region id ops false) s Q :=
  let ⟨s', h1, h2⟩ := h
  ⟨_, s', .region h1, h2⟩
theorem EvQ.seq {x y : Code} (h : EvQ P T k x s (thenQ (fun s1 => EvQ P T k y s1 Q) Q)) : EvQ P T k (.seq x y) s Q := by
  obtain ⟨e, s1, h1, h2⟩ := h
  cases e with
  | normal => obtain ⟨e, s2, h3, h4⟩ := h2; exact ⟨e, s2, .seqN h1 h3, h4⟩
  | _ => exact ⟨_, s1, .seqX h1 (by simp), h2⟩
theorem EvQ.cond {c : Operand} {x y : Code} {b : Bool} (hc : ev s.t c = .sc (.bool b)) (h1 : b = true → EvQ P T k x s Q) (h2 : b = false → EvQ P T k y s Q) : EvQ P T k (.cond c x y) s Q := by
  cases b with
  | true => obtain ⟨e, s1, h3, h4⟩ := h1 rfl; exact ⟨e, s1, .condT hc h3, h4⟩
  | false => obtain ⟨e, s1, h3, h4⟩ := h2 rfl; exact ⟨e, s1, .condF hc h3, h4⟩
theorem EvQ.block {id : Nat} {c : Code} (h : EvQ P T k c s (blockQ id Q)) : EvQ P T k (.block id c) s Q := by
  obtain ⟨e, s1, h1, h2⟩ := h
  cases e with
  | exit j =>
    by_cases e : j = id
    · subst e; simp at h2; exact ⟨_, s1, .blockX h1, h2⟩
    · simp [e] at h2; exact ⟨_, s1, .blockN h1 (by simp [e]), h2⟩
  | _ => exact ⟨_, s1, .blockN h1 (by simp), h2⟩
theorem EvQ.loop {c : Code} (I : Nat → St → Prop) (m : Nat) (h0 : I m s) (h : ∀ m s, I m s → EvQ P T k c s (thenQ (fun s' => ∃ m', m' < m ∧ I m' s') Q)) : EvQ P T k (.loop c) s Q := by
  have key : ∀ (m : Nat) (s : St), I m s → ∃ e s', EvLoop P T k c s e s' ∧ Q e s' := by
    intro m
    induction m using Nat.strongRecOn with
    | _ m ih =>
      intro s hI
      obtain ⟨e, s1, h1, h2⟩ := h m s hI
      cases e with
      | normal =>
        obtain ⟨m', hlt, hI'⟩ := h2
        obtain ⟨e, s2, h3, h4⟩ := ih m' hlt s1 hI'
        exact ⟨e, s2, .more h1 h3, h4⟩
      | _ => exact ⟨_, s1, .done h1 (by simp), h2⟩
  obtain ⟨e, s', h1, h2⟩ := key m s h0
  exact ⟨e, s', .loop h1, h2⟩
theorem EvQ.mono {c : Code} {Q' : Ex → St → Prop} (h : EvQ P T k c s Q) (hq : ∀ e s', Q e s' → Q' e s') : EvQ P T k c s Q' :=
  let ⟨e, s', h1, h2⟩ := h
  ⟨e, s', h1, hq _ _ h2⟩
theorem EvQ.weak {c : Code} {s1 : St} (ids : List Nat) (hw : Weak T s s1 ids) (h : EvQ P T k c s1 Q) : EvQ P T k c s Q :=
  let ⟨e, s', h1, h2⟩ := h
  ⟨e, s', .weak ids hw h1, h2⟩
variable {G : Array Oper} {o : Oper} {l : List Oper} {K : St → Prop}
theorem EvLQ.nil (h : K s) : EvLQ P T k G [] s K := ⟨s, .nil, h⟩
theorem EvLQ.op {v : AV} {H' : Nat → Option Blk} {n' : Nat} (h1 : wantedA G o s.t = some true) (h2 : dstOk k o = true) (h3 : Does P T o s.t s.H s.n v H' n') (h4 : EvLQ P T k G l ⟨putA s.t o.dst v, H', n'⟩ K) : EvLQ P T k G (o :: l) s K :=
  let ⟨s', q1, q2⟩ := h4
  ⟨s', .op h1 h2 h3 q1, q2⟩
theorem EvLQ.skip (h1 : wantedA G o s.t = some false) (h2 : dstOk k o = true) (h4 : EvLQ P T k G l ⟨putA s.t o.dst (.tup []), s.H, s.n⟩ K) : EvLQ P T k G (o :: l) s K :=
  let ⟨s', q1, q2⟩ := h4
  ⟨s', .skip h1 h2 q1, q2⟩
theorem EvLQ.weak {s1 : St} (ids : List Nat) (hw : Weak T s s1 ids) (h : EvLQ P T k G l s1 K) : EvLQ P T k G l s K :=
  let ⟨s', h1, h2⟩ := h
  ⟨s', .weak ids hw h1, h2⟩
theorem RunQ.of {f : FuncId} {fn : Func} {c : Code} {args : List AV} {H : Nat → Option Blk} {n : Nat} {Z : AV → (Nat → Option Blk) → Nat → Prop} (h1 : P.funcs[f]? = some fn) (h2 : fn.body = some c) (h3 : (fn.name == "runtime.NumGoroutine") = false) (h4 : args.length ≤ fn.ntmps)
    (h : EvQ P T fn.ntmps c ⟨initT args, H, n⟩ (fun e s' => (e = .ret ∨ e = .normal) ∧ ∃ r, resOf T fn.results.toList s' = some r ∧ Z r s'.H s'.n)) : RunQ P T f args H n Z :=
  let ⟨e, s', q1, q2, r, q3, q4⟩ := h
  ⟨r, s'.H, s'.n, .mk h1 h2 h3 h4 q1 q2 q3, q4⟩
theorem RunF.of {f : FuncId} {fn : Func} {c : Code} {args : List AV} {r : AV} (h1 : P.funcs[f]? = some fn) (h2 : fn.body = some c) (h3 : (fn.name == "runtime.NumGoroutine") = false) (h4 : args.length ≤ fn.ntmps)
    (h : EvQ P T fn.ntmps c ⟨initT args, fun _ => none, 0⟩ (fun e s' => (e = .ret ∨ e = .normal) ∧ resOf T fn.results.toList s' = some r)) : RunF P T f args r :=
  let ⟨e, s', q1, q2, q3⟩ := h
  ⟨s'.H, s'.n, .mk h1 h2 h3 h4 q1 q2 q3⟩
theorem EvLQ.callF {c : Call} {f : Operand} {g : FuncId} {first caps args : List AV} {v : AV} (h1 : wantedA G o s.t = some true) (h2 : dstOk k o = true)
    (ho : o.op = .call c) (hc : c.callee = .value f) (hf : ev s.t f = .fn (.func g) first caps) (ha : first ++ c.args.toList.map (ev s.t) ++ caps = args) (hfr : freeL args = true) (hr : RunF P T g args v) (hv : free v = true)
    (h4 : EvLQ P T k G l ⟨putA s.t o.dst v, s.H, s.n⟩ K) : EvLQ P T k G (o :: l) s K := by
  obtain ⟨H', n', h⟩ := hr
  subst ha
  exact EvLQ.op h1 h2 (.callF ho hc hf hfr h hv) h4
theorem EvLQ.callB {c : Call} {f : Operand} {g : FuncId} {first caps args args' : List AV} {v : AV} (ids : List Nat) (h1 : wantedA G o s.t = some true) (h2 : dstOk k o = true)
    (ho : o.op = .call c) (hc : c.callee = .value f) (hf : ev s.t f = .fn (.func g) first caps) (ha : first ++ c.args.toList.map (ev s.t) ++ caps = args) (hvw : ViewL T s.H ids args args') (hr : RunF P T g args' v) (hv : flat v = true)
    (h4 : EvLQ P T k G l ⟨putA s.t o.dst v, s.H, s.n⟩ K) : EvLQ P T k G (o :: l) s K := by
  obtain ⟨H', n', h⟩ := hr
  subst ha
  exact EvLQ.op h1 h2 (.callB ids ho hc hf hvw h (.inr hv)) h4
theorem EvLQ.callS {c : Call} {f : Operand} {g : FuncId} {first caps args : List AV} (h1 : wantedA G o s.t = some true) (h2 : dstOk k o = true)
    (ho : o.op = .call c) (hc : c.callee = .value f) (hf : ev s.t f = .fn (.func g) first caps) (ha : first ++ c.args.toList.map (ev s.t) ++ caps = args)
    (h4 : RunQ P T g args s.H s.n (fun v H' n' => EvLQ P T k G l ⟨putA s.t o.dst v, H', n'⟩ K)) : EvLQ P T k G (o :: l) s K := by
  obtain ⟨v, H', n', h, h5⟩ := h4
  subst ha
  exact EvLQ.op h1 h2 (.callS ho hc hf h) h5
end
end Go.Proofs.YtappiofmkoelnaaGreatDoorW.Ah
end
section
namespace Go.Proofs.YtappiofmkoelnaaGreatDoorW.Ah
set_option linter.unusedVariables false
set_option linter.unusedSimpArgs false
abbrev Mem := Nat → Option Blk
abbrev Cont := Ex → (Nat → AV) → Mem → Nat → Prop
inductive It where
  | code (c : Code)
  | ops (G : Array Oper) (l : List Oper)
  | opsD (G : Array Oper) (cl : List Cls) (l : List Nat)
  | block (id : Nat)
  | loop (I : Nat → (Nat → AV) → Mem → Nat → Prop) (m : Nat)
def unwind (id : Nat) : List It → Option (List It)
  | .block j :: st => if j = id then some st else unwind id st
  | _ :: st => unwind id st
  | [] => none
section
variable (P : Program) (T : Tab) (k : Nat)
def Stk : List It → (Nat → AV) → Mem → Nat → Cont → Prop
  | [], t, H, n, C => C .normal t H n
  | .code c :: st, t, H, n, C => EvQ P T k c ⟨t, H, n⟩ (fun e s =>
    match e with
    | .normal => Stk st s.t s.H s.n C
    | .exit id => resX id st s.t s.H s.n C
    | e => C e s.t s.H s.n)
  | .ops G l :: st, t, H, n, C => EvLQ P T k G l ⟨t, H, n⟩ (fun s => Stk st s.t s.H s.n C)
  | .opsD G cl l :: st, t, H, n, C => ∃ s', EvD P T k G cl l ⟨t, H, n⟩ s' ∧ Stk st s'.t s'.H s'.n C
  | .block _ :: st, t, H, n, C => Stk st t H n C
  | .loop I m :: _, t, H, n, _ => ∃ m', m' < m ∧ I m' t H n
where
  resX (id : Nat) : List It → (Nat → AV) → Mem → Nat → Cont → Prop
  | [], t, H, n, C => C (.exit id) t H n
  | .block j :: st, t, H, n, C => if j = id then Stk st t H n C else resX id st t H n C
  | .code _ :: st, t, H, n, C => resX id st t H n C
  | .ops _ _ :: st, t, H, n, C => resX id st t H n C
  | .opsD _ _ _ :: st, t, H, n, C => resX id st t H n C
  | .loop _ _ :: st, t, H, n, C => resX id st t H n C
def rdOk : Option Cls → List Nat → Bool
  | some (.rd R'), R => R.all fun j => R'.contains j
  | _, _ => false
def memOk : Option Cls → Mem → Mem → Prop
  | some (.mem S b), H, H' => ∀ j, j < b → j ∉ S → H' j = H j
  | _, _, _ => False
theorem memOk_spec {c : Option Cls} {H H' : Mem} (h : memOk c H H') : ∃ S b, c = some (.mem S b) ∧ ∀ j, j < b → j ∉ S → H' j = H j := by
  unfold memOk at h
  split at h
  · exact ⟨_, _, rfl, h⟩
  · exact h.elim
theorem rdOk_spec {c : Option Cls} {R : List Nat} (h : rdOk c R = true) : ∃ R', c = some (.rd R') ∧ ∀ j ∈ R, j ∈ R' := by
  unfold rdOk at h
  split at h
  · rename_i R'
    refine ⟨R', rfl, fun j hj => ?_⟩
    simpa using List.all_eq_true.1 h j hj
  · cases h
def evS : Nat → List It → (Nat → AV) → Mem → Nat → Cont → Prop
  | 0, st, t, H, n, C => Stk P T k st t H n C
  | _ + 1, [], t, H, n, C => C .normal t H n
  | f + 1, .block _ :: st, t, H, n, C => evS f st t H n C
  | _ + 1, .loop I m :: _, t, H, n, _ => ∃ m', m' < m ∧ I m' t H n
  | f + 1, .ops _ [] :: st, t, H, n, C => evS f st t H n C
  | f + 1, .ops G (o :: l) :: st, t, H, n, C =>
    match wantedA G o t with
    | some true =>
      match vop T t H o.op with
      | some v => if dstOk k o = true then evS f (.ops G l :: st) (putA t o.dst v) H n C else False
      | none =>
        match mop T t H n o.op with
        | some (v, H', n') => if dstOk k o = true then evS f (.ops G l :: st) (putA t o.dst v) H' n' C else False
        | none => Stk P T k (.ops G (o :: l) :: st) t H n C
    | some false => if dstOk k o = true then evS f (.ops G l :: st) (putA t o.dst (.tup [])) H n C else False
    | none => Stk P T k (.ops G (o :: l) :: st) t H n C
  | f + 1, .opsD _ _ [] :: st, t, H, n, C => evS f st t H n C
  | f + 1, .opsD G cl (i :: l) :: st, t, H, n, C =>
    match G[i]? with
    | none => False
    | some o =>
      match wantedA G o t with
      | some true =>
        match vop T t H o.op with
        | some v => if dstOk k o = true ∧ rdOk cl[i]? (readsOf t o.op) = true then evS f (.opsD G cl l :: st) (putA t o.dst v) H n C else False
        | none =>
          match mop T t H n o.op with
          | some (v, H', n') => memOk cl[i]? H H' ∧ if dstOk k o = true then evS f (.opsD G cl l :: st) (putA t o.dst v) H' n' C else False
          | none => Stk P T k (.opsD G cl (i :: l) :: st) t H n C
      | some false => if dstOk k o = true then evS f (.opsD G cl l :: st) (putA t o.dst (.tup [])) H n C else False
      | none => Stk P T k (.opsD G cl (i :: l) :: st) t H n C
  | f + 1, .code c :: st, t, H, n, C =>
    match c with
    | .skip => evS f st t H n C
    | .label _ => evS f st t H n C
    | .ret => C .ret t H n
    | .goto l => C (.goto l) t H n
    | .exit id =>
      match unwind id st with
      | some st' => evS f st' t H n C
      | none => C (.exit id) t H n
    | .region _ ops false => evS f (.ops ops ops.toList :: st) t H n C
    | .seq x y => evS f (.code x :: .code y :: st) t H n C
    | .block id c => evS f (.code c :: .block id :: st) t H n C
    | .cond c x y =>
      match ev t c with
      | .sc (.bool b) => (b = true → evS f (.code x :: st) t H n C) ∧ (b = false → evS f (.code y :: st) t H n C)
      | _ => False
    | c => Stk P T k (.code c :: st) t H n C
end
section
variable {P : Program} {T : Tab} {k : Nat}
theorem resX_unwind (id : Nat) : ∀ {st : List It} {t : Nat → AV} {H : Mem} {n : Nat} {C : Cont}, (match unwind id st with | some st' => Stk P T k st' t H n C | none => C (.exit id) t H n) → Stk.resX P T k id st t H n C
  | [], _, _, _, _, h => h
  | .block j :: st, t, H, n, C, h => by
    simp only [unwind] at h
    simp only [Stk.resX]
    split
    · rename_i e; rw [if_pos e] at h; exact h
    · rename_i e; rw [if_neg e] at h; exact resX_unwind id h
  | .code _ :: st, t, H, n, C, h => by simp only [unwind] at h; simp only [Stk.resX]; exact resX_unwind id h
  | .ops _ _ :: st, t, H, n, C, h => by simp only [unwind] at h; simp only [Stk.resX]; exact resX_unwind id h
  | .opsD _ _ _ :: st, t, H, n, C, h => by simp only [unwind] at h; simp only [Stk.resX]; exact resX_unwind id h
  | .loop _ _ :: st, t, H, n, C, h => by simp only [unwind] at h; simp only [Stk.resX]; exact resX_unwind id h
theorem evS_sound : ∀ {f : Nat} {st : List It} {t : Nat → AV} {H : Mem} {n : Nat} {C : Cont}, evS P T k f st t H n C → Stk P T k st t H n C
  | 0, _, _, _, _, _, h => h
  | _ + 1, [], _, _, _, _, h => h
  | f + 1, .block _ :: st, t, H, n, C, h => by simp only [evS] at h; simp only [Stk]; exact evS_sound h
  | _ + 1, .loop I m :: _, t, H, n, _, h => by simpa only [evS, Stk] using h
  | f + 1, .ops _ [] :: st, t, H, n, C, h => by simp only [evS] at h; simp only [Stk]; exact EvLQ.nil (evS_sound h)
  | f + 1, .ops G (o :: l) :: st, t, H, n, C, h => by
    simp only [evS] at h
    split at h
    · rename_i hw
      split at h
      · rename_i v hv
        split at h
        · rename_i hd
          have := evS_sound h
          simp only [Stk] at this ⊢
          exact EvLQ.op hw hd (.vop hv) this
        · exact h.elim
      · split at h
        · rename_i v H' n' hm
          split at h
          · rename_i hd
            have := evS_sound h
            simp only [Stk] at this ⊢
            exact EvLQ.op hw hd (.mop hm) this
          · exact h.elim
        · exact h
    · rename_i hw
      split at h
      · rename_i hd
        have := evS_sound h
        simp only [Stk] at this ⊢
        exact EvLQ.skip hw hd this
      · exact h.elim
    · exact h
  | f + 1, .opsD _ _ [] :: st, t, H, n, C, h => by simp only [evS] at h; simp only [Stk]; exact ⟨_, .nil, evS_sound h⟩
  | f + 1, .opsD G cl (i :: l) :: st, t, H, n, C, h => by
    simp only [evS] at h
    split at h
    · exact h.elim
    · rename_i o ho
      split at h
      · rename_i hw
        split at h
        · rename_i v hv
          split at h
          · rename_i hd
            have := evS_sound h
            simp only [Stk] at this ⊢
            obtain ⟨s', q1, q2⟩ := this
            obtain ⟨R', r1, r2⟩ := rdOk_spec hd.2
            exact ⟨s', .rd ho hw hd.1 (.vop hv) r1 r2 q1, q2⟩
          · exact h.elim
        · split at h
          · rename_i v H' n' hm
            obtain ⟨hm0, h⟩ := h
            obtain ⟨S, b, r1, r2⟩ := memOk_spec hm0
            split at h
            · rename_i hd
              have := evS_sound h
              simp only [Stk] at this ⊢
              obtain ⟨s', q1, q2⟩ := this
              exact ⟨s', .mem ho hw hd (.mop hm) r1 r2 q1, q2⟩
            · exact h.elim
          · exact h
      · rename_i hw
        split at h
        · rename_i hd
          have := evS_sound h
          simp only [Stk] at this ⊢
          obtain ⟨s', q1, q2⟩ := this
          exact ⟨s', .skip ho hw hd q1, q2⟩
        · exact h.elim
      · exact h
  | f + 1, .code c :: st, t, H, n, C, h => by
    simp only [evS] at h
    split at h
    · simp only [Stk]; exact EvQ.skip (evS_sound h)
    · simp only [Stk]; exact EvQ.label (evS_sound h)
    · simp only [Stk]; exact EvQ.ret h
    · simp only [Stk]; exact EvQ.goto h
    · rename_i id
      simp only [Stk]
      refine EvQ.exit (resX_unwind id ?_)
      split at h
      · exact evS_sound h
      · exact h
    · have := evS_sound h
      simp only [Stk] at this ⊢
      exact EvQ.region this
    · have := evS_sound h
      simp only [Stk] at this ⊢
      refine EvQ.seq (EvQ.mono this fun e s hq => ?_)
      cases e <;> exact hq
    · have := evS_sound h
      simp only [Stk] at this ⊢
      refine EvQ.block (EvQ.mono this fun e s hq => ?_)
      cases e with
      | exit j =>
        simp only [Stk.resX] at hq
        simp only [blockQ]
        split
        · rename_i e; subst e; simpa using hq
        · rename_i e; rw [if_neg (fun e' => e e'.symm)] at hq; exact hq
      | _ => exact hq
    · split at h
      · rename_i b hb
        simp only [Stk]
        refine EvQ.cond hb (fun e => ?_) (fun e => ?_)
        · have := evS_sound (h.1 e); simpa only [Stk] using this
        · have := evS_sound (h.2 e); simpa only [Stk] using this
      · exact h.elim
    · exact h
variable {G : Array Oper} {l : List Oper} {st : List It} {t : Nat → AV} {H : Mem} {n : Nat} {C : Cont} {g : FuncId} {first caps args : List AV} {v : AV} {xs : Array Operand} {ats : Array TypeId} {f : Operand} {ty : TypeId} {pos : String} {after : Array Edge} {guard : Option (Nat × Bool)} {dst : Option Nat}
theorem Stk.callF (fuel : Nat) (hr : RunF P T g args v) (h1 : wantedA G ⟨dst, .call ⟨.value f, xs, ats⟩, ty, pos, after, guard⟩ t = some true) (h2 : dstOk k ⟨dst, .call ⟨.value f, xs, ats⟩, ty, pos, after, guard⟩ = true)
    (hf : ev t f = .fn (.func g) first caps) (ha : first ++ xs.toList.map (ev t) ++ caps = args) (hfr : freeL args = true) (hv : free v = true)
    (h4 : evS P T k fuel (.ops G l :: st) (putA t dst v) H n C) : Stk P T k (.ops G (⟨dst, .call ⟨.value f, xs, ats⟩, ty, pos, after, guard⟩ :: l) :: st) t H n C := by
  have := evS_sound h4
  simp only [Stk] at this ⊢
  exact EvLQ.callF (s := ⟨t, H, n⟩) h1 h2 rfl rfl hf ha hfr hr hv this
theorem Stk.callB (fuel : Nat) {args' : List AV} (ids : List Nat) (hr : RunF P T g args' v) (h1 : wantedA G ⟨dst, .call ⟨.value f, xs, ats⟩, ty, pos, after, guard⟩ t = some true) (h2 : dstOk k ⟨dst, .call ⟨.value f, xs, ats⟩, ty, pos, after, guard⟩ = true)
    (hf : ev t f = .fn (.func g) first caps) (ha : first ++ xs.toList.map (ev t) ++ caps = args) (hvw : ViewL T H ids args args') (hv : flat v = true)
    (h4 : evS P T k fuel (.ops G l :: st) (putA t dst v) H n C) : Stk P T k (.ops G (⟨dst, .call ⟨.value f, xs, ats⟩, ty, pos, after, guard⟩ :: l) :: st) t H n C := by
  have := evS_sound h4
  simp only [Stk] at this ⊢
  exact EvLQ.callB (s := ⟨t, H, n⟩) ids h1 h2 rfl rfl hf ha hvw hr hv this
theorem Stk.callS (fuel : Nat) {Z : AV → Mem → Nat → Prop} (hr : RunQ P T g args H n Z) (h1 : wantedA G ⟨dst, .call ⟨.value f, xs, ats⟩, ty, pos, after, guard⟩ t = some true) (h2 : dstOk k ⟨dst, .call ⟨.value f, xs, ats⟩, ty, pos, after, guard⟩ = true)
    (hf : ev t f = .fn (.func g) first caps) (ha : first ++ xs.toList.map (ev t) ++ caps = args)
    (h4 : ∀ v H' n', Z v H' n' → evS P T k fuel (.ops G l :: st) (putA t dst v) H' n' C) : Stk P T k (.ops G (⟨dst, .call ⟨.value f, xs, ats⟩, ty, pos, after, guard⟩ :: l) :: st) t H n C := by
  obtain ⟨r, H', n', q1, q2⟩ := hr
  have := evS_sound (h4 r H' n' q2)
  simp only [Stk] at this ⊢
  exact EvLQ.callS (s := ⟨t, H, n⟩) h1 h2 rfl rfl hf ha ⟨r, H', n', q1, this⟩
def Cls.indep' : Option Cls → Option Cls → Bool
  | some (.rd _), some (.rd _) => true
  | some (.rd R), some (.mem S _) => R.all fun j => !S.contains j
  | some (.mem S _), some (.rd R) => R.all fun j => !S.contains j
  | _, _ => false
def below (cl : List Cls) : Prop := ∀ c ∈ cl, ∀ d ∈ cl, match c, d with | .rd R, .mem _ b => ∀ j ∈ R, j < b | _, _ => True
def indep2 (G : Array Oper) (cl : List Cls) (a i : Nat) : Bool := match G[a]?, G[i]? with | some x, some y => x.apart G y && Cls.indep' cl[a]? cl[i]? | _, _ => false
def barrier2 (G : Array Oper) (cl : List Cls) (q i : Nat) : Bool := waits G G.size q i && (List.range q).all fun x => indep2 G cl x q || waits G G.size x i
def pairOk2 (G : Array Oper) (cl : List Cls) (q : Option Nat) (a i : Nat) : Bool :=
  if q = some a then barrier2 G cl a i || indep2 G cl a i
  else if q = some i then waits G G.size a i || apartB G a i
  else waits G G.size a i || indep2 G cl a i
def drawOk2 (G : Array Oper) (cl : List Cls) (q : Option Nat) : Bool :=
  (List.range G.size).all fun i =>
    (match G[i]? with | some o => o.after.toList.all fun e => !Region.binds .any e || decide (e.on < i) | none => false) &&
    (List.range i).all fun a => pairOk2 G cl q a i
theorem Cls.indep_of {cl : List Cls} (hl : below cl) {i j : Nat} (h : Cls.indep' cl[i]? cl[j]? = true) : Cls.indep cl[i]? cl[j]? = true := by
  cases hi : cl[i]? with
  | none => rw [hi] at h; simp [Cls.indep'] at h
  | some c =>
    cases hj : cl[j]? with
    | none => rw [hi, hj] at h; cases c <;> simp [Cls.indep'] at h
    | some d =>
      rw [hi, hj] at h
      have m1 := List.mem_of_getElem? hi
      have m2 := List.mem_of_getElem? hj
      cases c <;> cases d <;> simp only [Cls.indep', Cls.indep] at h ⊢ <;> try exact h
      · have := hl _ m1 _ m2
        simp only at this
        rw [List.all_eq_true] at h ⊢
        intro x hx
        have h1 := h x hx
        have h2 := this x hx
        simp [h2] at h1 ⊢
        exact h1
      · have := hl _ m2 _ m1
        simp only at this
        rw [List.all_eq_true] at h ⊢
        intro x hx
        have h1 := h x hx
        have h2 := this x hx
        simp [h2] at h1 ⊢
        exact h1
theorem indep2_ok {G : Array Oper} {cl : List Cls} (hl : below cl) {a i : Nat} (h : indep2 G cl a i = true) : indep G cl a i = true := by
  unfold indep2 at h
  unfold indep
  split at h
  · rename_i x y hx hy
    rw [hx, hy]
    simp only [Bool.and_eq_true] at h ⊢
    exact ⟨h.1, Cls.indep_of hl h.2⟩
  · cases h
theorem drawOk2_ok {G : Array Oper} {cl : List Cls} {q : Option Nat} (h : drawOk2 G cl q = true) (hl : below cl) : drawOk G cl q = true := by
  unfold drawOk2 at h
  unfold drawOk
  rw [List.all_eq_true] at h ⊢
  intro i hi
  have := h i hi
  rw [Bool.and_eq_true] at this ⊢
  refine ⟨this.1, ?_⟩
  have h2 := this.2
  rw [List.all_eq_true] at h2 ⊢
  intro a ha
  have h3 := h2 a ha
  unfold pairOk2 at h3
  unfold pairOk
  split
  · rename_i e
    rw [if_pos e, Bool.or_eq_true] at h3
    rw [Bool.or_eq_true]
    rcases h3 with h3 | h3
    · refine .inr ?_
      unfold barrier2 at h3
      unfold barrier
      rw [Bool.and_eq_true, List.all_eq_true] at h3 ⊢
      refine ⟨h3.1, fun x hx => ?_⟩
      have := h3.2 x hx
      rw [Bool.or_eq_true] at this ⊢
      rcases this with h | h
      · exact .inl (indep2_ok hl h)
      · exact .inr h
    · exact .inl (indep2_ok hl h3)
  · rename_i e
    rw [if_neg e] at h3
    split
    · rename_i e2
      rw [if_pos e2] at h3
      exact h3
    · rename_i e2
      rw [if_neg e2, Bool.or_eq_true] at h3
      rw [Bool.or_eq_true]
      rcases h3 with h3 | h3
      · exact .inr h3
      · exact .inl (indep2_ok hl h3)
theorem Stk.regionD (fuel : Nat) {id : Nat} {ops : Array Oper} (cl : List Cls) (q : Option Nat) (hm : P.follows .mixedOrders = true) (hok : drawOk2 ops cl q = true) (hlt : lateOk T ops q = true) (hl : below cl) {R : List Nat} (hR : List.range ops.size = R)
    (h : evS P T k fuel (.opsD ops cl R :: st) t H n C) : Stk P T k (.code (.region id ops true) :: st) t H n C := by
  subst hR
  have := evS_sound h
  simp only [Stk] at this ⊢
  obtain ⟨s', q1, q2⟩ := this
  exact ⟨.normal, s', .regionD cl q hm (drawOk2_ok hok hl) hlt q1, q2⟩
variable {cl : List Cls} {i : Nat} {L : List Nat}
theorem Stk.loop (fuel : Nat) {c : Code} (I : Nat → (Nat → AV) → Mem → Nat → Prop) (m : Nat) (h0 : I m t H n)
    (h : ∀ J : Nat → (Nat → AV) → Mem → Nat → Prop, (∀ m t H n, I m t H n → J m t H n) → ∀ m t H n, I m t H n → evS P T k fuel (.code c :: .loop J m :: st) t H n C) : Stk P T k (.code (.loop c) :: st) t H n C := by
  replace h := h I fun _ _ _ _ h => h
  simp only [Stk]
  refine EvQ.loop (fun m s => I m s.t s.H s.n) m h0 fun m s hI => ?_
  have := evS_sound (h m s.t s.H s.n hI)
  simp only [Stk] at this
  refine EvQ.mono this fun e s' hq => ?_
  cases e with
  | normal => exact hq
  | _ => exact hq
theorem RunF.ev (fuel : Nat) {f : FuncId} {fn : Func} {c : Code} {args : List AV} {r : AV} (h1 : P.funcs[f]? = some fn) (h2 : fn.body = some c) (h3 : (fn.name == "runtime.NumGoroutine") = false) {k : Nat} (hk : fn.ntmps = k) (h4 : Nat.ble args.length k = true) {rs : List ResultVar} (hrs : fn.results.toList = rs)
    (h : ∀ C : Cont, (∀ t H n, resOf T rs ⟨t, H, n⟩ = some r → C .ret t H n) → (∀ t H n, resOf T rs ⟨t, H, n⟩ = some r → C .normal t H n) → evS P T k fuel [.code c] (initT args) (fun _ => none) 0 C) : RunF P T f args r := by
  subst hk; subst hrs
  have := evS_sound (h (fun e t H n => (e = .ret ∨ e = .normal) ∧ resOf T fn.results.toList ⟨t, H, n⟩ = some r) (fun t H n h => ⟨.inl rfl, h⟩) (fun t H n h => ⟨.inr rfl, h⟩))
  refine RunF.of h1 h2 h3 (Nat.le_of_ble_eq_true h4) ?_
  rw [Stk] at this
  refine EvQ.mono this fun e s hq => ?_
  cases e <;> exact hq
theorem RunQ.ev (fuel : Nat) {f : FuncId} {fn : Func} {c : Code} {args : List AV} {H : Mem} {n : Nat} {Z : AV → Mem → Nat → Prop} (h1 : P.funcs[f]? = some fn) (h2 : fn.body = some c) (h3 : (fn.name == "runtime.NumGoroutine") = false) {k : Nat} (hk : fn.ntmps = k) (h4 : Nat.ble args.length k = true) {rs : List ResultVar} (hrs : fn.results.toList = rs)
    (h : ∀ C : Cont, (∀ t H n r, resOf T rs ⟨t, H, n⟩ = some r → Z r H n → C .ret t H n) → (∀ t H n r, resOf T rs ⟨t, H, n⟩ = some r → Z r H n → C .normal t H n) → evS P T k fuel [.code c] (initT args) H n C) : RunQ P T f args H n Z := by
  subst hk; subst hrs
  have := evS_sound (h (fun e t H n => (e = .ret ∨ e = .normal) ∧ ∃ r, resOf T fn.results.toList ⟨t, H, n⟩ = some r ∧ Z r H n) (fun t H n r h h' => ⟨.inl rfl, r, h, h'⟩) (fun t H n r h h' => ⟨.inr rfl, r, h, h'⟩))
  refine RunQ.of h1 h2 h3 (Nat.le_of_ble_eq_true h4) ?_
  rw [Stk] at this
  refine EvQ.mono this fun e s hq => ?_
  cases e <;> exact hq
end
attribute [simp] evS rdOk memOk readsOf unwind wantedA dstOk vop mop ev ofVal putA partOk cellOk cellsOf initT binAV intBin shiftBin strBin eqT eqT.eqFs unAV convAV fillAV optBound boundOf bounds limOf natOk elemsOf splice resOf resOne sizeT aggK Value.oneCell' upd free freeL flat flatL fitsC appendAV
@[simp] theorem partOf_cons {T : Tab} {ty : Nat} (a : AV) (cs : List AV) (off : Nat) : partOf T ty (a :: cs) off =
    match T ty with
    | some i => if aggK i.k = true then (if off + i.size ≤ (a :: cs).length then some (.agg (((a :: cs).drop off).take i.size)) else none) else (a :: cs)[off]?
    | none => none := rfl
end Go.Proofs.YtappiofmkoelnaaGreatDoorW.Ah
end
section
namespace Go.Proofs.YtappiofmkoelnaaGreatDoorW.Ah
set_option linter.unusedVariables false
set_option linter.unusedSimpArgs false
def encs {α : Type} (e : α → List AV) (xs : List α) : List AV := xs.flatMap e
class Enc {α : Type} (e : α → List AV) (z : outParam Nat) : Prop where
  len : ∀ x, (e x).length = z
section
variable {α : Type} {e : α → List AV} {z : Nat} [h : Enc e z]
@[simp] theorem encs_nil : encs e [] = [] := rfl
theorem encs_cons (x : α) (xs : List α) : encs e (x :: xs) = e x ++ encs e xs := rfl
theorem encs_append (xs ys : List α) : encs e (xs ++ ys) = encs e xs ++ encs e ys := by simp [encs]
theorem encs_one (x : α) : encs e [x] = e x := by simp [encs]
@[simp] theorem length_encs (xs : List α) : (encs e xs).length = xs.length * z := by
  induction xs with
  | nil => simp [encs]
  | cons x xs ih => rw [encs_cons, List.length_append, ih, h.len]; simp [Nat.add_mul, Nat.add_comm]
theorem drop_encs (xs : List α) : ∀ (k : Nat), (encs e xs).drop (k * z) = encs e (xs.drop k) := by
  induction xs with
  | nil => intro k; simp [encs]
  | cons x xs ih =>
    intro k
    cases k with
    | zero => simp
    | succ k =>
      rw [encs_cons, List.drop_succ_cons, ← ih, Nat.succ_mul, Nat.add_comm, List.drop_append, h.len]
      rw [List.drop_of_length_le (by rw [h.len]; omega), List.nil_append]
      congr 1
      omega
theorem take_encs (xs : List α) : ∀ (k : Nat), (encs e xs).take (k * z) = encs e (xs.take k) := by
  induction xs with
  | nil => intro k; simp [encs]
  | cons x xs ih =>
    intro k
    cases k with
    | zero => simp
    | succ k =>
      rw [encs_cons, List.take_succ_cons, encs_cons, ← ih, Nat.succ_mul, List.take_append, h.len]
      rw [List.take_of_length_le (by rw [h.len]; omega)]
      congr 2
      omega
theorem elem_encs (xs : List α) (k : Nat) (hk : k < xs.length) : ((encs e xs).drop (k * z)).take z = e xs[k] := by
  rw [drop_encs]
  have := take_encs (e := e) (xs.drop k) 1
  rw [Nat.one_mul] at this
  rw [this, List.drop_eq_getElem_cons hk, List.take_succ_cons, List.take_zero, encs_one]
end
@[simp] theorem freeL_append (a b : List AV) : freeL (a ++ b) = (freeL a && freeL b) := by
  induction a with
  | nil => simp [freeL]
  | cons x a ih => simp [freeL, ih, Bool.and_assoc]
theorem freeL_encs {α : Type} {e : α → List AV} (he : ∀ x, freeL (e x) = true) (xs : List α) : freeL (encs e xs) = true := by
  induction xs with
  | nil => rfl
  | cons x xs ih => rw [encs_cons, freeL_append, he, ih]; rfl
instance encOne {α : Type} (f : α → AV) : Enc (fun x => [f x]) 1 := ⟨fun _ => rfl⟩
theorem wrap64_id {x : Int} (h1 : -9223372036854775808 ≤ x) (h2 : x < 9223372036854775808) : IntKind.i64.wrap x = x := by
  simp [IntKind.wrap, IntKind.bits, IntKind.signed]; omega
theorem wrap_succ (m : Nat) (h : m + 1 < 9223372036854775808) : IntKind.i64.wrap ((m : Int) + 1) = ((m + 1 : Nat) : Int) := by rw [wrap64_id (by omega) (by omega)]; simp
end Go.Proofs.YtappiofmkoelnaaGreatDoorW.Ah
end
section
namespace Go.Proofs.YtappiofmkoelnaaGreatDoorW.Ah
set_option linter.unusedVariables false
set_option linter.unusedSimpArgs false
def slv : Option Nat → Nat → AV
  | none, _ => .sc (.slice none 0 0)
  | some i, n => .osl i 0 n none
@[simp] theorem slv_none (n : Nat) : slv none n = .sc (.slice none 0 0) := rfl
@[simp] theorem slv_some (i n : Nat) : slv (some i) n = .osl i 0 n none := rfl
def Own {α : Type} (H : Mem) (ty : Nat) (e : α → List AV) : Option Nat → List α → Prop
  | none, xs => xs = []
  | some i, xs => ∃ ys, H i = some (.cells (encs e xs ++ ys) ty)
theorem Own.mono {α : Type} {H H' : Mem} {ty : Nat} {e : α → List AV} {o : Option Nat} {xs : List α} (h : Own H ty e o xs) (hk : ∀ i, o = some i → H' i = H i) : Own H' ty e o xs := by
  cases o with
  | none => exact h
  | some i =>
    obtain ⟨ys, h⟩ := h
    exact ⟨ys, by rw [hk i rfl, h]⟩
theorem Own.take {α : Type} {H : Mem} {ty : Nat} {e : α → List AV} {o : Option Nat} {xs : List α} (h : Own H ty e o xs) (k : Nat) : Own H ty e o (xs.take k) := by
  cases o with
  | none => simp only [Own] at h ⊢; subst h; simp
  | some i =>
    obtain ⟨ys, h⟩ := h
    refine ⟨encs e (xs.drop k) ++ ys, ?_⟩
    rw [h, ← List.append_assoc, ← encs_append, List.take_append_drop]
section
variable {α : Type} {e : α → List AV} {z : Nat} [hE : Enc e z]
end
end Go.Proofs.YtappiofmkoelnaaGreatDoorW.Ah
end
section
namespace Go.Proofs.YtappiofmkoelnaaGreatDoorW.Ah
set_option linter.unusedVariables false
set_option linter.unusedSimpArgs false
def seqs : Code → List Code
  | .seq x y => seqs x ++ seqs y
  | c => [c]
def codes (l : List Code) : List It := l.map .code
section
variable {P : Program} {T : Tab} {k : Nat} {t : Nat → AV} {H : Mem} {n : Nat} {C : Cont}
theorem resX_codes (id : Nat) : ∀ (l : List Code) (t : Nat → AV) (H : Mem) (n : Nat) (C : Cont), Stk.resX P T k id (codes l) t H n C = C (.exit id) t H n
  | [], _, _, _, _ => rfl
  | _ :: l, t, H, n, C => by
    show Stk.resX P T k id (codes l) t H n C = _
    exact resX_codes id l t H n C
theorem Stk.seqs : ∀ (c : Code) (st : List It) {t : Nat → AV} {H : Mem} {n : Nat} {C : Cont}, Stk P T k (codes (seqs c) ++ st) t H n C → Stk P T k (.code c :: st) t H n C := by
  intro c
  induction c with
  | seq x y ihx ihy =>
    intro st t H n C h
    have h2 : Stk P T k (.code x :: .code y :: st) t H n C := by
      refine ihx _ ?_
      have : codes (Ah.seqs (.seq x y)) ++ st = codes (Ah.seqs x) ++ (codes (Ah.seqs y) ++ st) := by simp [codes, Ah.seqs]
      rw [this] at h
      have key : ∀ (l : List Code) (s1 s2 : List It), (∀ t H n, Stk P T k s1 t H n C → Stk P T k s2 t H n C) → (∀ id t H n, Stk.resX P T k id s1 t H n C → Stk.resX P T k id s2 t H n C) → ∀ t H n, Stk P T k (codes l ++ s1) t H n C → Stk P T k (codes l ++ s2) t H n C := by
        intro l
        induction l with
        | nil => intro s1 s2 a b t H n h; exact a t H n h
        | cons c l ih =>
          intro s1 s2 a b t H n h
          show Stk P T k (.code c :: (codes l ++ s2)) t H n C
          have h : Stk P T k (.code c :: (codes l ++ s1)) t H n C := h
          simp only [Stk] at h ⊢
          refine EvQ.mono h fun e s hq => ?_
          cases e with
          | normal => exact ih s1 s2 a b _ _ _ hq
          | exit id =>
            have kx : ∀ (l : List Code) t H n, Stk.resX P T k id (codes l ++ s1) t H n C → Stk.resX P T k id (codes l ++ s2) t H n C := by
              intro l
              induction l with
              | nil => intro t H n h; exact b id t H n h
              | cons c l ih => intro t H n h; exact ih t H n h
            exact kx l _ _ _ hq
          | _ => exact hq
      refine key _ _ _ (fun t H n h => ihy _ h) (fun id t H n h => ?_) _ _ _ h
      have kx : ∀ (l : List Code), Stk.resX P T k id (codes l ++ st) t H n C → Stk.resX P T k id st t H n C := by
        intro l
        induction l with
        | nil => intro h; exact h
        | cons c l ih => intro h; exact ih h
      exact kx _ h
    simp only [Stk] at h2 ⊢
    refine EvQ.seq (EvQ.mono h2 fun e s hq => ?_)
    cases e <;> exact hq
  | _ => intro st t H n C h; exact h
theorem Stk.tail {s1 s2 : List It} (a : ∀ t H n, Stk P T k s1 t H n C → Stk P T k s2 t H n C) (b : ∀ id t H n, Stk.resX P T k id s1 t H n C → Stk.resX P T k id s2 t H n C) : ∀ (l : List Code) t H n, Stk P T k (codes l ++ s1) t H n C → Stk P T k (codes l ++ s2) t H n C
  | [], t, H, n, h => a t H n h
  | c :: l, t, H, n, h => by
    show Stk P T k (.code c :: (codes l ++ s2)) t H n C
    have h : Stk P T k (.code c :: (codes l ++ s1)) t H n C := h
    simp only [Stk] at h ⊢
    refine EvQ.mono h fun e s hq => ?_
    cases e with
    | normal => exact Stk.tail a b l _ _ _ hq
    | exit id =>
      have kx : ∀ (l : List Code) t H n, Stk.resX P T k id (codes l ++ s1) t H n C → Stk.resX P T k id (codes l ++ s2) t H n C := by
        intro l
        induction l with
        | nil => intro t H n h; exact b id t H n h
        | cons c l ih => intro t H n h; exact ih t H n h
      exact kx l _ _ _ hq
    | _ => exact hq
theorem Stk.cut {l l' : List Code} (cs : List Code) (hl : l = cs ++ l') (h : ∀ J : Nat → (Nat → AV) → Mem → Nat → Prop, (∀ t H n, Stk P T k (codes l') t H n C → J 0 t H n) → Stk P T k (codes cs ++ [.loop J 1]) t H n C) : Stk P T k (codes l) t H n C := by
  subst hl
  have := h (fun _ t H n => Stk P T k (codes l') t H n C) (fun _ _ _ h => h)
  have e : codes (cs ++ l') = codes cs ++ codes l' := by simp [codes]
  rw [e]
  refine Stk.tail (fun t H n h => ?_) (fun id t H n h => ?_) cs _ _ _ this
  · obtain ⟨m, _, h⟩ := h; exact h
  · simp only [Stk.resX] at h
    rw [resX_codes]; exact h
theorem RunF.parts {f : FuncId} {fn : Func} {c : Code} {args : List AV} {r : AV} (h1 : P.funcs[f]? = some fn) (h2 : fn.body = some c) (h3 : (fn.name == "runtime.NumGoroutine") = false) {k : Nat} (hk : fn.ntmps = k) (h4 : Nat.ble args.length k = true) {rs : List ResultVar} (hrs : fn.results.toList = rs)
    (h : ∀ C : Cont, (∀ t H n, resOf T rs ⟨t, H, n⟩ = some r → C .ret t H n) → (∀ t H n, resOf T rs ⟨t, H, n⟩ = some r → C .normal t H n) → Stk P T k (codes (seqs c)) (initT args) (fun _ => none) 0 C) : RunF P T f args r := by
  refine RunF.ev 0 h1 h2 h3 hk h4 hrs fun C a b => ?_
  have := Stk.seqs c [] (by rw [List.append_nil]; exact h C a b)
  exact this
end
end Go.Proofs.YtappiofmkoelnaaGreatDoorW.Ah
end
section
namespace Go.Proofs.YtappiofmkoelnaaGreatDoorW.Ah
set_option linter.unusedVariables false
set_option linter.unusedSimpArgs false
def Cls.ren (L : List Nat) (b0 : Nat) : Cls → Cls
  | .rd R => .rd (R.map fun i => L.getD i 0)
  | .mem S _ => .mem (S.map fun i => L.getD i 0) b0
def Cls.small (k : Nat) : Cls → Bool
  | .rd R => R.all fun i => decide (i < k)
  | .mem S _ => S.all fun i => decide (i < k)
theorem getD_inj {L : List Nat} (hL : L.Nodup) {i j : Nat} (hi : i < L.length) (hj : j < L.length) (h : L.getD i 0 = L.getD j 0) : i = j := by
  rw [List.getD_eq_getElem?_getD, List.getD_eq_getElem?_getD, List.getElem?_eq_getElem hi, List.getElem?_eq_getElem hj] at h
  simp only [Option.getD_some] at h
  rcases Nat.lt_trichotomy i j with g | g | g
  · exact absurd h (List.pairwise_iff_getElem.1 hL i j hi hj g)
  · exact g
  · exact absurd h.symm (List.pairwise_iff_getElem.1 hL j i hj hi g)
theorem drawOk2_ren {G : Array Oper} {q : Option Nat} (L : List Nat) (hL : L.Nodup) (b0 : Nat) (cl : List Cls) (hs : cl.all (Cls.small L.length) = true) (hd : drawOk2 G cl q = true) : drawOk2 G (cl.map (Cls.ren L b0)) q = true := by
  have dis : ∀ (R S : List Nat), (R.all fun i => decide (i < L.length)) = true → (S.all fun i => decide (i < L.length)) = true → (R.all fun j => !S.contains j) = true → ((R.map fun i => L.getD i 0).all fun j => !(S.map fun i => L.getD i 0).contains j) = true := by
    intro R S hR hS h
    rw [List.all_eq_true] at h hR hS ⊢
    intro x hx
    obtain ⟨r, hr, rfl⟩ := List.mem_map.1 hx
    have h1 := h r hr
    simp only [Bool.not_eq_true', List.contains_eq_mem, decide_eq_false_iff_not] at h1 ⊢
    intro hm
    obtain ⟨s, hs, e⟩ := List.mem_map.1 hm
    have := getD_inj hL (by simpa using hS s hs) (by simpa using hR r hr) e
    exact h1 (this ▸ hs)
  have key : ∀ a b : Nat, Cls.indep' cl[a]? cl[b]? = true → Cls.indep' (cl.map (Cls.ren L b0))[a]? (cl.map (Cls.ren L b0))[b]? = true := by
    intro a b h
    rw [List.getElem?_map, List.getElem?_map]
    cases ha : cl[a]? with
    | none => rw [ha] at h; simp [Cls.indep'] at h
    | some c =>
      cases hb : cl[b]? with
      | none => rw [ha, hb] at h; cases c <;> simp [Cls.indep'] at h
      | some d =>
        rw [ha, hb] at h
        rw [List.all_eq_true] at hs
        have hc := hs c (List.mem_of_getElem? ha)
        have hd := hs d (List.mem_of_getElem? hb)
        cases c with
        | rd R =>
          cases d with
          | rd R2 => rfl
          | mem S b2 => exact dis R S hc hd h
        | mem S b2 =>
          cases d with
          | rd R => exact dis R S hd hc h
          | mem S2 b3 => simp [Cls.indep'] at h
  have key2 : ∀ a b : Nat, indep2 G cl a b = true → indep2 G (cl.map (Cls.ren L b0)) a b = true := by
    intro a b h
    unfold indep2 at h ⊢
    split at h
    · rename_i x y hx hy
      simp only [Bool.and_eq_true] at h ⊢
      exact ⟨h.1, key a b h.2⟩
    · cases h
  have key3 : ∀ a b : Nat, pairOk2 G cl q a b = true → pairOk2 G (cl.map (Cls.ren L b0)) q a b = true := by
    intro a b h
    unfold pairOk2 at h ⊢
    split
    · rename_i hq
      rw [if_pos hq, Bool.or_eq_true] at h
      rw [Bool.or_eq_true]
      rcases h with h | h
      · refine .inl ?_
        unfold barrier2 at h ⊢
        rw [Bool.and_eq_true, List.all_eq_true] at h ⊢
        refine ⟨h.1, fun x hx => ?_⟩
        have := h.2 x hx
        rw [Bool.or_eq_true] at this ⊢
        exact this.imp (key2 x a) id
      · exact .inr (key2 a b h)
    · rename_i hq
      rw [if_neg hq] at h
      split
      · rename_i hq2
        rw [if_pos hq2] at h; exact h
      · rename_i hq2
        rw [if_neg hq2, Bool.or_eq_true] at h
        rw [Bool.or_eq_true]
        rcases h with h | h
        · exact .inl h
        · exact .inr (key2 a b h)
  unfold drawOk2 at hd ⊢
  rw [List.all_eq_true] at hd ⊢
  intro i hi
  have := hd i hi
  rw [Bool.and_eq_true, List.all_eq_true] at this ⊢
  exact ⟨this.1, fun a ha => key3 a i (this.2 a ha)⟩
section
variable (P : Program) (T : Tab) (k : Nat)
def evZ : Nat → List It → (Nat → AV) → Mem → Nat → Cont → Prop
  | 0, st, t, H, n, C => Stk P T k st t H n C
  | _ + 1, [], t, H, n, C => C .normal t H n
  | f + 1, .block _ :: st, t, H, n, C => evZ f st t H n C
  | _ + 1, .loop I m :: _, t, H, n, _ => ∃ m', m' < m ∧ I m' t H n
  | f + 1, .ops _ [] :: st, t, H, n, C => evZ f st t H n C
  | f + 1, .ops G (o :: l) :: st, t, H, n, C =>
    match wantedA G o t with
    | some true =>
      match vop T t H o.op with
      | some v => if dstOk k o = true then evZ f (.ops G l :: st) (putA t o.dst v) H n C else False
      | none =>
        match mop T t H n o.op with
        | some (v, H', n') => if dstOk k o = true then evZ f (.ops G l :: st) (putA t o.dst v) H' n' C else False
        | none => Stk P T k (.ops G (o :: l) :: st) t H n C
    | some false => if dstOk k o = true then evZ f (.ops G l :: st) (putA t o.dst (.tup [])) H n C else False
    | none => Stk P T k (.ops G (o :: l) :: st) t H n C
  | f + 1, .opsD _ _ [] :: st, t, H, n, C => evZ f st t H n C
  | f + 1, .opsD G cl (i :: l) :: st, t, H, n, C =>
    match G[i]? with
    | none => False
    | some o =>
      match wantedA G o t with
      | some true =>
        match vop T t H o.op with
        | some v => if dstOk k o = true ∧ rdOk cl[i]? (readsOf t o.op) = true then evZ f (.opsD G cl l :: st) (putA t o.dst v) H n C else False
        | none =>
          match mop T t H n o.op with
          | some (v, H', n') => memOk cl[i]? H H' ∧ if dstOk k o = true then evZ f (.opsD G cl l :: st) (putA t o.dst v) H' n' C else False
          | none => Stk P T k (.opsD G cl (i :: l) :: st) t H n C
      | some false => if dstOk k o = true then evZ f (.opsD G cl l :: st) (putA t o.dst (.tup [])) H n C else False
      | none => Stk P T k (.opsD G cl (i :: l) :: st) t H n C
  | f + 1, .code c :: st, t, H, n, C =>
    match c with
    | .skip => evZ f st t H n C
    | .label _ => evZ f st t H n C
    | .ret => C .ret t H n
    | .goto l => C (.goto l) t H n
    | .exit id =>
      match unwind id st with
      | some st' => evZ f st' t H n C
      | none => C (.exit id) t H n
    | .region _ ops false => evZ f (.ops ops ops.toList :: st) t H n C
    | .seq x y => evZ f (.code x :: .code y :: st) t H n C
    | .block id c => evZ f (.code c :: .block id :: st) t H n C
    | c => Stk P T k (.code c :: st) t H n C
end
section
variable {P : Program} {T : Tab} {k : Nat}
theorem evZ_sound : ∀ {f : Nat} {st : List It} {t : Nat → AV} {H : Mem} {n : Nat} {C : Cont}, evZ P T k f st t H n C → Stk P T k st t H n C
  | 0, _, _, _, _, _, h => h
  | _ + 1, [], _, _, _, _, h => h
  | f + 1, .block _ :: st, t, H, n, C, h => by simp only [evZ] at h; simp only [Stk]; exact evZ_sound h
  | _ + 1, .loop I m :: _, t, H, n, _, h => by simpa only [evZ, Stk] using h
  | f + 1, .ops _ [] :: st, t, H, n, C, h => by simp only [evZ] at h; simp only [Stk]; exact EvLQ.nil (evZ_sound h)
  | f + 1, .ops G (o :: l) :: st, t, H, n, C, h => by
    simp only [evZ] at h
    split at h
    · rename_i hw
      split at h
      · rename_i v hv
        split at h
        · rename_i hd
          have := evZ_sound h
          simp only [Stk] at this ⊢
          exact EvLQ.op hw hd (.vop hv) this
        · exact h.elim
      · split at h
        · rename_i v H' n' hm
          split at h
          · rename_i hd
            have := evZ_sound h
            simp only [Stk] at this ⊢
            exact EvLQ.op hw hd (.mop hm) this
          · exact h.elim
        · exact h
    · rename_i hw
      split at h
      · rename_i hd
        have := evZ_sound h
        simp only [Stk] at this ⊢
        exact EvLQ.skip hw hd this
      · exact h.elim
    · exact h
  | f + 1, .opsD _ _ [] :: st, t, H, n, C, h => by simp only [evZ] at h; simp only [Stk]; exact ⟨_, .nil, evZ_sound h⟩
  | f + 1, .opsD G cl (i :: l) :: st, t, H, n, C, h => by
    simp only [evZ] at h
    split at h
    · exact h.elim
    · rename_i o ho
      split at h
      · rename_i hw
        split at h
        · rename_i v hv
          split at h
          · rename_i hd
            have := evZ_sound h
            simp only [Stk] at this ⊢
            obtain ⟨s', q1, q2⟩ := this
            obtain ⟨R', r1, r2⟩ := rdOk_spec hd.2
            exact ⟨s', .rd ho hw hd.1 (.vop hv) r1 r2 q1, q2⟩
          · exact h.elim
        · split at h
          · rename_i v H' n' hm
            obtain ⟨hm0, h⟩ := h
            obtain ⟨S, b, r1, r2⟩ := memOk_spec hm0
            split at h
            · rename_i hd
              have := evZ_sound h
              simp only [Stk] at this ⊢
              obtain ⟨s', q1, q2⟩ := this
              exact ⟨s', .mem ho hw hd (.mop hm) r1 r2 q1, q2⟩
            · exact h.elim
          · exact h
      · rename_i hw
        split at h
        · rename_i hd
          have := evZ_sound h
          simp only [Stk] at this ⊢
          obtain ⟨s', q1, q2⟩ := this
          exact ⟨s', .skip ho hw hd q1, q2⟩
        · exact h.elim
      · exact h
  | f + 1, .code c :: st, t, H, n, C, h => by
    simp only [evZ] at h
    split at h
    · simp only [Stk]; exact EvQ.skip (evZ_sound h)
    · simp only [Stk]; exact EvQ.label (evZ_sound h)
    · simp only [Stk]; exact EvQ.ret h
    · simp only [Stk]; exact EvQ.goto h
    · rename_i id
      simp only [Stk]
      refine EvQ.exit (resX_unwind id ?_)
      cases hu : unwind id st with
      | some st' => rw [hu] at h; exact evZ_sound h
      | none => rw [hu] at h; exact h
    · have := evZ_sound h
      simp only [Stk] at this ⊢
      exact EvQ.region this
    · have := evZ_sound h
      simp only [Stk] at this ⊢
      refine EvQ.seq (EvQ.mono this fun e s hq => ?_)
      cases e <;> exact hq
    · have := evZ_sound h
      simp only [Stk] at this ⊢
      refine EvQ.block (EvQ.mono this fun e s hq => ?_)
      cases e with
      | exit j =>
        simp only [Stk.resX] at hq
        simp only [blockQ]
        split
        · rename_i e; subst e; simpa using hq
        · rename_i e; rw [if_neg (fun e' => e e'.symm)] at hq; exact hq
      | _ => exact hq
    · exact h
variable {st st' : List It} {t : Nat → AV} {H : Mem} {n : Nat} {C : Cont}
theorem Stk.cond {c : Operand} {x y : Code} (b : Bool) (hc : ev t c = .sc (.bool b)) (h1 : b = true → Stk P T k (.code x :: st) t H n C) (h2 : b = false → Stk P T k (.code y :: st) t H n C) : Stk P T k (.code (.cond c x y) :: st) t H n C := by
  simp only [Stk] at h1 h2 ⊢
  exact EvQ.cond hc h1 h2
theorem Stk.gen (F : (Nat → AV) → Mem → Nat → Prop) (hF : F t H n) (h : ∀ t H n, F t H n → Stk P T k st t H n C) : Stk P T k st t H n C := h t H n hF
theorem Stk.sq {x y : Code} (h : Stk P T k (.code x :: .code y :: st) t H n C) : Stk P T k (.code (.seq x y) :: st) t H n C := evZ_sound (f := 1) h
theorem Stk.bk {id : Nat} {c : Code} (h : Stk P T k (.code c :: .block id :: st) t H n C) : Stk P T k (.code (.block id c) :: st) t H n C := evZ_sound (f := 1) h
theorem Stk.rg {id : Nat} {ops : Array Oper} (h : Stk P T k (.ops ops ops.toList :: st) t H n C) : Stk P T k (.code (.region id ops false) :: st) t H n C := evZ_sound (f := 1) h
theorem Stk.sk (h : Stk P T k st t H n C) : Stk P T k (.code .skip :: st) t H n C := evZ_sound (f := 1) h
theorem Stk.lb {l : Nat} (h : Stk P T k st t H n C) : Stk P T k (.code (.label l) :: st) t H n C := evZ_sound (f := 1) h
theorem Stk.rt (h : C .ret t H n) : Stk P T k (.code .ret :: st) t H n C := evZ_sound (f := 1) h
theorem Stk.ex {id : Nat} (hu : unwind id st = some st') (h : Stk P T k st' t H n C) : Stk P T k (.code (.exit id) :: st) t H n C := by
  refine evZ_sound (f := 1) ?_
  simp only [evZ, hu]
  exact h
theorem Stk.on {G : Array Oper} (h : Stk P T k st t H n C) : Stk P T k (.ops G [] :: st) t H n C := evZ_sound (f := 1) h
theorem Stk.onD {G : Array Oper} {cl : List Cls} (h : Stk P T k st t H n C) : Stk P T k (.opsD G cl [] :: st) t H n C := evZ_sound (f := 1) h
theorem Stk.bn {id : Nat} (h : Stk P T k st t H n C) : Stk P T k (.block id :: st) t H n C := evZ_sound (f := 1) h
theorem Stk.ln {I : Nat → (Nat → AV) → Mem → Nat → Prop} {m : Nat} (m' : Nat) (hm : m' < m) (h : I m' t H n) : Stk P T k (.loop I m :: st) t H n C := evZ_sound (f := 1) ⟨m', hm, h⟩
theorem Stk.jn {x : It} (K : (Nat → AV) → Mem → Nat → Prop) (hx : match x with | .loop .. => False | .block _ => False | _ => True) (h1 : ∀ J : Nat → (Nat → AV) → Mem → Nat → Prop, (∀ t H n, K t H n → J 0 t H n) → Stk P T k (x :: .loop J 1 :: st) t H n C) (h2 : ∀ t H n, K t H n → Stk P T k st t H n C) : Stk P T k (x :: st) t H n C := by
  have h := h1 (fun _ => K) fun _ _ _ h => h
  have key : ∀ t H n, (∃ m', m' < 1 ∧ K t H n) → Stk P T k st t H n C := fun t H n ⟨_, _, h⟩ => h2 t H n h
  cases x with
  | loop => exact hx.elim
  | block => exact hx.elim
  | code c =>
    simp only [Stk] at h ⊢
    refine EvQ.mono h fun e s hq => ?_
    cases e with
    | normal => exact key _ _ _ hq
    | exit id => exact hq
    | _ => exact hq
  | ops G l =>
    simp only [Stk] at h ⊢
    obtain ⟨s', q1, q2⟩ := h
    exact ⟨s', q1, key _ _ _ q2⟩
  | opsD G cl l =>
    simp only [Stk] at h ⊢
    obtain ⟨s', q1, q2⟩ := h
    exact ⟨s', q1, key _ _ _ q2⟩
def runZ (T : Tab) (k : Nat) (G : Array Oper) : List Oper → (Nat → AV) → Mem → Nat → ((Nat → AV) → Mem → Nat → Prop) → Prop
  | [], t, H, n, J => J t H n
  | o :: l, t, H, n, J =>
    match wantedA G o t with
    | some true =>
      match vop T t H o.op with
      | some v => if dstOk k o = true then runZ T k G l (putA t o.dst v) H n J else False
      | none =>
        match mop T t H n o.op with
        | some (v, H', n') => if dstOk k o = true then runZ T k G l (putA t o.dst v) H' n' J else False
        | none => False
    | some false => if dstOk k o = true then runZ T k G l (putA t o.dst (.tup [])) H n J else False
    | none => False
theorem runZ_sound {G : Array Oper} {l2 : List Oper} {J : (Nat → AV) → Mem → Nat → Prop} (h2 : ∀ t H n, J t H n → Stk P T k (.ops G l2 :: st) t H n C) : ∀ {l : List Oper} {t : Nat → AV} {H : Mem} {n : Nat}, runZ T k G l t H n J → Stk P T k (.ops G (l ++ l2) :: st) t H n C
  | [], _, _, _, h => h2 _ _ _ h
  | o :: l, t, H, n, h => by
    simp only [runZ] at h
    split at h
    · rename_i hw
      split at h
      · rename_i v hv
        split at h
        · rename_i hd
          have := runZ_sound h2 h
          simp only [Stk, List.cons_append] at this ⊢
          exact EvLQ.op hw hd (.vop hv) this
        · exact h.elim
      · split at h
        · rename_i v H' n' hm
          split at h
          · rename_i hd
            have := runZ_sound h2 h
            simp only [Stk, List.cons_append] at this ⊢
            exact EvLQ.op hw hd (.mop hm) this
          · exact h.elim
        · exact h.elim
    · rename_i hw
      split at h
      · rename_i hd
        have := runZ_sound h2 h
        simp only [Stk, List.cons_append] at this ⊢
        exact EvLQ.skip hw hd this
      · exact h.elim
    · exact h.elim
theorem Stk.run {G : Array Oper} {l : List Oper} (m : Nat) (K : (Nat → AV) → Mem → Nat → Prop) (h1 : ∀ J : (Nat → AV) → Mem → Nat → Prop, (∀ t H n, K t H n → J t H n) → runZ T k G (l.take m) t H n J) (h2 : ∀ t H n, K t H n → Stk P T k (.ops G (l.drop m) :: st) t H n C) : Stk P T k (.ops G l :: st) t H n C := by
  have := runZ_sound (P := P) (st := st) (C := C) h2 (h1 K fun _ _ _ h => h)
  rwa [List.take_append_drop] at this
def runD (T : Tab) (k : Nat) (G : Array Oper) (cl : List Cls) : List Nat → (Nat → AV) → Mem → Nat → ((Nat → AV) → Mem → Nat → Prop) → Prop
  | [], t, H, n, J => J t H n
  | i :: l, t, H, n, J =>
    match G[i]? with
    | none => False
    | some o =>
      match wantedA G o t with
      | some true =>
        match vop T t H o.op with
        | some v => if dstOk k o = true ∧ rdOk cl[i]? (readsOf t o.op) = true then runD T k G cl l (putA t o.dst v) H n J else False
        | none =>
          match mop T t H n o.op with
          | some (v, H', n') => memOk cl[i]? H H' ∧ if dstOk k o = true then runD T k G cl l (putA t o.dst v) H' n' J else False
          | none => False
      | some false => if dstOk k o = true then runD T k G cl l (putA t o.dst (.tup [])) H n J else False
      | none => False
theorem runD_sound {G : Array Oper} {cl : List Cls} {l2 : List Nat} {J : (Nat → AV) → Mem → Nat → Prop} (h2 : ∀ t H n, J t H n → Stk P T k (.opsD G cl l2 :: st) t H n C) : ∀ {l : List Nat} {t : Nat → AV} {H : Mem} {n : Nat}, runD T k G cl l t H n J → Stk P T k (.opsD G cl (l ++ l2) :: st) t H n C
  | [], _, _, _, h => h2 _ _ _ h
  | i :: l, t, H, n, h => by
    simp only [runD] at h
    split at h
    · exact h.elim
    · rename_i o ho
      split at h
      · rename_i hw
        split at h
        · rename_i v hv
          split at h
          · rename_i hd
            have := runD_sound h2 h
            simp only [Stk, List.cons_append] at this ⊢
            obtain ⟨s', q1, q2⟩ := this
            obtain ⟨R', r1, r2⟩ := rdOk_spec hd.2
            exact ⟨s', .rd ho hw hd.1 (.vop hv) r1 r2 q1, q2⟩
          · exact h.elim
        · split at h
          · rename_i v H' n' hm
            obtain ⟨hm0, h⟩ := h
            obtain ⟨S, b, r1, r2⟩ := memOk_spec hm0
            split at h
            · rename_i hd
              have := runD_sound h2 h
              simp only [Stk, List.cons_append] at this ⊢
              obtain ⟨s', q1, q2⟩ := this
              exact ⟨s', .mem ho hw hd (.mop hm) r1 r2 q1, q2⟩
            · exact h.elim
          · exact h.elim
      · rename_i hw
        split at h
        · rename_i hd
          have := runD_sound h2 h
          simp only [Stk, List.cons_append] at this ⊢
          obtain ⟨s', q1, q2⟩ := this
          exact ⟨s', .skip ho hw hd q1, q2⟩
        · exact h.elim
      · exact h.elim
theorem Stk.runD {G : Array Oper} {cl : List Cls} {l : List Nat} (m : Nat) (K : (Nat → AV) → Mem → Nat → Prop) (h1 : ∀ J : (Nat → AV) → Mem → Nat → Prop, (∀ t H n, K t H n → J t H n) → Ah.runD T k G cl (l.take m) t H n J) (h2 : ∀ t H n, K t H n → Stk P T k (.opsD G cl (l.drop m) :: st) t H n C) : Stk P T k (.opsD G cl l :: st) t H n C := by
  have := runD_sound (P := P) (st := st) (C := C) h2 (h1 K fun _ _ _ h => h)
  rwa [List.take_append_drop] at this
theorem Stk.rgD {id : Nat} {ops : Array Oper} (cl : List Cls) (q : Option Nat) (hm : P.follows .mixedOrders = true) (hok : drawOk2 ops cl q = true) (hlt : lateOk T ops q = true) (hl : below cl) {R : List Nat} (hR : List.range ops.size = R)
    (h : Stk P T k (.opsD ops cl R :: st) t H n C) : Stk P T k (.code (.region id ops true) :: st) t H n C := Stk.regionD 0 cl q hm hok hlt hl hR h
theorem Stk.lo {c : Code} (I : Nat → (Nat → AV) → Mem → Nat → Prop) (m : Nat) (h0 : I m t H n)
    (h : ∀ J : Nat → (Nat → AV) → Mem → Nat → Prop, (∀ m t H n, I m t H n → J m t H n) → ∀ m t H n, I m t H n → Stk P T k (.code c :: .loop J m :: st) t H n C) : Stk P T k (.code (.loop c) :: st) t H n C := Stk.loop 0 I m h0 h
section
variable {G : Array Oper} {l : List Oper} {g : FuncId} {first caps args args' : List AV} {v : AV} {xs : Array Operand} {ats : Array TypeId} {f : Operand} {ty : TypeId} {pos : String} {after : Array Edge} {guard : Option (Nat × Bool)} {dst : Option Nat}
theorem Stk.cv (ids : List Nat) (hr : RunF P T g args' v) (h1 : wantedA G ⟨dst, .call ⟨.value f, xs, ats⟩, ty, pos, after, guard⟩ t = some true) (h2 : dstOk k ⟨dst, .call ⟨.value f, xs, ats⟩, ty, pos, after, guard⟩ = true)
    (hf : ev t f = .fn (.func g) first caps) (ha : first ++ xs.toList.map (ev t) ++ caps = args) (hvw : ViewL T H ids args args') (hv : (ids = [] ∧ free v = true) ∨ flat v = true)
    (h4 : ∀ t', t' = putA t dst v → Stk P T k (.ops G l :: st) t' H n C) : Stk P T k (.ops G (⟨dst, .call ⟨.value f, xs, ats⟩, ty, pos, after, guard⟩ :: l) :: st) t H n C := by
  have := h4 _ rfl
  simp only [Stk] at this ⊢
  obtain ⟨H', n', h⟩ := hr
  subst ha
  exact EvLQ.op (s := ⟨t, H, n⟩) h1 h2 (.callB ids rfl rfl hf hvw h hv) this
theorem Stk.cs {Z : AV → Mem → Nat → Prop} (hr : RunQ P T g args H n Z) (h1 : wantedA G ⟨dst, .call ⟨.value f, xs, ats⟩, ty, pos, after, guard⟩ t = some true) (h2 : dstOk k ⟨dst, .call ⟨.value f, xs, ats⟩, ty, pos, after, guard⟩ = true)
    (hf : ev t f = .fn (.func g) first caps) (ha : first ++ xs.toList.map (ev t) ++ caps = args)
    (h4 : ∀ v H' n', Z v H' n' → ∀ t', t' = putA t dst v → Stk P T k (.ops G l :: st) t' H' n' C) : Stk P T k (.ops G (⟨dst, .call ⟨.value f, xs, ats⟩, ty, pos, after, guard⟩ :: l) :: st) t H n C :=
  Stk.callS 0 hr h1 h2 hf ha fun v H' n' hz => h4 v H' n' hz _ rfl
variable {cl : List Cls} {i : Nat} {L : List Nat}
theorem Stk.cvD (ids : List Nat) (hr : RunF P T g args' v) {R : List Nat} (hcl : cl[i]? = some (.rd R)) (hR : ∀ j ∈ ids, j ∈ R) (h0 : G[i]? = some ⟨dst, .call ⟨.value f, xs, ats⟩, ty, pos, after, guard⟩) (h1 : wantedA G ⟨dst, .call ⟨.value f, xs, ats⟩, ty, pos, after, guard⟩ t = some true) (h2 : dstOk k ⟨dst, .call ⟨.value f, xs, ats⟩, ty, pos, after, guard⟩ = true)
    (hf : ev t f = .fn (.func g) first caps) (ha : first ++ xs.toList.map (ev t) ++ caps = args) (hvw : ViewL T H ids args args') (hv : (ids = [] ∧ free v = true) ∨ flat v = true)
    (h4 : ∀ t', t' = putA t dst v → Stk P T k (.opsD G cl L :: st) t' H n C) : Stk P T k (.opsD G cl (i :: L) :: st) t H n C := by
  have := h4 _ rfl
  simp only [Stk] at this ⊢
  obtain ⟨s', q1, q2⟩ := this
  obtain ⟨H', n', hr⟩ := hr
  subst ha
  exact ⟨s', .rd h0 h1 h2 (.callB ids rfl rfl hf hvw hr hv) hcl hR q1, q2⟩
end
theorem RunF.z {f : FuncId} {fn : Func} {c : Code} {args : List AV} {r : AV} (h1 : P.funcs[f]? = some fn) (h2 : fn.body = some c) (h3 : (fn.name == "runtime.NumGoroutine") = false) {k : Nat} (hk : fn.ntmps = k) (h4 : Nat.ble args.length k = true) {rs : List ResultVar} (hrs : fn.results.toList = rs)
    (h : ∀ C : Cont, (∀ t H n r1 ids, resOf T rs ⟨t, H, n⟩ = some r1 → Vw T H ids r1 r → C .ret t H n ∧ C .normal t H n) → Stk P T k [.code c] (initT args) (fun _ => none) 0 C) : RunF P T f args r := by
  subst hk; subst hrs
  have hC := h (fun e t H n => (e = .ret ∨ e = .normal) ∧ ∃ r1 ids, resOf T fn.results.toList ⟨t, H, n⟩ = some r1 ∧ Vw T H ids r1 r) (fun t H n r1 ids a b => ⟨⟨.inl rfl, r1, ids, a, b⟩, .inr rfl, r1, ids, a, b⟩)
  rw [Stk] at hC
  obtain ⟨e, s', q1, q2⟩ := hC
  have q3 : (e = .ret ∨ e = .normal) ∧ ∃ r1 ids, resOf T fn.results.toList s' = some r1 ∧ Vw T s'.H ids r1 r := by cases e <;> exact q2
  obtain ⟨he, r1, ids, hr1, hv⟩ := q3
  refine ⟨fun _ => none, s'.n, Run.weak ids (.mk h1 h2 h3 (Nat.le_of_ble_eq_true h4) q1 he hr1) ⟨fun i => .inl rfl, fun i => .inl rfl, Nat.le_refl _⟩ hv⟩
theorem RunQ.z {f : FuncId} {fn : Func} {c : Code} {args : List AV} {H0 : Mem} {n0 : Nat} {Z : AV → Mem → Nat → Prop} (h1 : P.funcs[f]? = some fn) (h2 : fn.body = some c) (h3 : (fn.name == "runtime.NumGoroutine") = false) {k : Nat} (hk : fn.ntmps = k) (h4 : Nat.ble args.length k = true) {rs : List ResultVar} (hrs : fn.results.toList = rs)
    (h : ∀ C : Cont, (∀ t H n r1 r ids, resOf T rs ⟨t, H, n⟩ = some r1 → Vw T H ids r1 r → Z r (without H ids) n → C .ret t H n ∧ C .normal t H n) → Stk P T k [.code c] (initT args) H0 n0 C) : RunQ P T f args H0 n0 Z := by
  subst hk; subst hrs
  have hC := h (fun e t H n => (e = .ret ∨ e = .normal) ∧ ∃ r1 r ids, resOf T fn.results.toList ⟨t, H, n⟩ = some r1 ∧ Vw T H ids r1 r ∧ Z r (without H ids) n) (fun t H n r1 r ids a b z => ⟨⟨.inl rfl, r1, r, ids, a, b, z⟩, .inr rfl, r1, r, ids, a, b, z⟩)
  rw [Stk] at hC
  obtain ⟨e, s', q1, q2⟩ := hC
  have q3 : (e = .ret ∨ e = .normal) ∧ ∃ r1 r ids, resOf T fn.results.toList s' = some r1 ∧ Vw T s'.H ids r1 r ∧ Z r (without s'.H ids) s'.n := by cases e <;> exact q2
  obtain ⟨he, r1, r, ids, hr1, hv, hz⟩ := q3
  refine ⟨r, without s'.H ids, s'.n, Run.weak ids (.mk h1 h2 h3 (Nat.le_of_ble_eq_true h4) q1 he hr1) ⟨fun i => .inl rfl, fun i => ?_, Nat.le_refl _⟩ hv, hz⟩
  by_cases e : i ∈ ids
  · exact .inl (by simp [without, e])
  · exact .inr ⟨e, .inl (by simp [without, e])⟩
end
attribute [simp] evZ runZ runD
end Go.Proofs.YtappiofmkoelnaaGreatDoorW.Ah
end
section
namespace Go.Proofs.YtappiofmkoelnaaGreatDoorW.Ah
set_option linter.unusedVariables false
set_option linter.unusedSimpArgs false
set_option linter.unusedSectionVars false
def idx {α : Type} (xs : List α) (i : Int) : Option α := if 0 ≤ i then xs[i.toNat]? else none
def joinM {κ β : Type} (k : κ) (f : κ → Option β) : Option β := f k
@[simp] def bandI (k : IntKind) (x y : Int) : Int := k.wrap (BitVec.ofInt k.bits x &&& BitVec.ofInt k.bits y).toNat
@[simp] def borI (k : IntKind) (x y : Int) : Int := k.wrap (BitVec.ofInt k.bits x ||| BitVec.ofInt k.bits y).toNat
@[simp] def bxorI (k : IntKind) (x y : Int) : Int := k.wrap (BitVec.ofInt k.bits x ^^^ BitVec.ofInt k.bits y).toNat
@[simp] def bandNotI (k : IntKind) (x y : Int) : Int := k.wrap (BitVec.ofInt k.bits x &&& ~~~(BitVec.ofInt k.bits y)).toNat
@[simp] def shlI (k : IntKind) (x y : Int) : Int := k.wrap (x * 2 ^ (min y.toNat k.bits))
@[simp] def shrI (k : IntKind) (x y : Int) : Int := x.fdiv (2 ^ (min y.toNat k.bits))
def shlM (k : IntKind) (x y : Int) : Option Int := if y < 0 then none else some (shlI k x y)
theorem bnd {α β : Type} {o : Option α} {f : α → Option β} {r : β} (h : o.bind f = some r) : ∃ x, o = some x ∧ f x = some r := by
  cases o with
  | none => cases h
  | some x => exact ⟨x, rfl, h⟩
theorem jnd {κ β : Type} {k : κ} {f : κ → Option β} {r : β} (h : joinM k f = some r) : ∃ K, K = k ∧ f K = some r := ⟨k, rfl, h⟩
theorem cT {β : Type} {b : Bool} {x y : Option β} {r : β} (hb : b = true) (h : (bif b then x else y) = some r) : x = some r := by subst hb; exact h
theorem cF {β : Type} {b : Bool} {x y : Option β} {r : β} (hb : b = false) (h : (bif b then x else y) = some r) : y = some r := by subst hb; exact h
theorem idx_ok {α : Type} {xs : List α} {i : Int} {x : α} (h : idx xs i = some x) : 0 ≤ i ∧ i < (xs.length : Int) ∧ i.toNat < xs.length ∧ xs[i.toNat]? = some x := by
  unfold idx at h
  split at h
  · rename_i hi
    have := (List.getElem?_eq_some_iff.1 h).1
    exact ⟨hi, by omega, this, h⟩
  · cases h
theorem shlM_ok {k : IntKind} {x y q : Int} (h : shlM k x y = some q) : ¬ y < 0 ∧ k.wrap (x * 2 ^ (min y.toNat k.bits)) = q := by
  unfold shlM at h
  split at h
  · cases h
  · rename_i hy; cases h; exact ⟨hy, rfl⟩
theorem partOf_drop {T : Tab} {ty : Nat} {i : TI} (ht : T ty = some i) (hz : 0 < i.size) (l : List AV) (o : Nat) : partOf T ty (l.drop o) 0 = partOf T ty l o := by
  unfold partOf
  rw [ht]
  simp only [Nat.zero_add, List.drop_zero, List.length_drop, List.getElem?_drop, Nat.add_zero]
  by_cases h : aggK i.k = true
  · rw [if_pos h, if_pos h]
    by_cases h2 : o + i.size ≤ l.length
    · rw [if_pos h2, if_pos (by omega)]
    · rw [if_neg h2, if_neg (by omega)]
  · rw [if_neg h, if_neg h]
section
variable {α : Type} {e : α → List AV} {z : Nat} [hE : Enc e z]
theorem part_elem {T : Tab} {ty : Nat} {i : TI} (ht : T ty = some i) (hz : 0 < i.size) (hk : aggK i.k = true ∨ i.size = 1) {xs : List α} {k : Int} {x : α} (hx : idx xs k = some x) (ys : List AV) (o : Nat) (ho : o + i.size ≤ z) :
    partOf T ty (encs e xs ++ ys) (k.toNat * z + o) = partOf T ty (e x) o := by
  obtain ⟨h0, h1, h2, h3⟩ := idx_ok hx
  have hx' : xs[k.toNat] = x := by rw [List.getElem?_eq_getElem h2] at h3; cases h3; rfl
  have hle := Nat.mul_le_mul_right z (show k.toNat + 1 ≤ xs.length from h2)
  rw [Nat.succ_mul] at hle
  have hel := elem_encs (e := e) xs k.toNat h2
  rw [hx'] at hel
  unfold partOf
  rw [ht]
  simp only
  by_cases h : aggK i.k = true
  · rw [if_pos h, if_pos h, if_pos (by simp [length_encs]; omega), if_pos (by rw [hE.len]; omega)]
    rw [← hel, List.drop_take, List.take_take, Nat.min_eq_left (by omega), List.drop_drop, List.drop_append_of_le_length (by rw [length_encs (e := e)]; omega), List.take_append_of_le_length (by rw [List.length_drop, length_encs (e := e)]; omega)]
  · rw [if_neg h, if_neg h]
    have hs : i.size = 1 := hk.resolve_left h
    rw [← hel, List.getElem?_take, if_pos (by omega), List.getElem?_drop, List.getElem?_append_left (by rw [length_encs (e := e)]; omega)]
theorem part_elem0 {T : Tab} {ty : Nat} {i : TI} (ht : T ty = some i) (hz : 0 < i.size) (hk : aggK i.k = true ∨ i.size = 1) {xs : List α} {k : Int} {x : α} (hx : idx xs k = some x) (o : Nat) (ho : o + i.size ≤ z) :
    partOf T ty (encs e xs) (k.toNat * z + o) = partOf T ty (e x) o := by
  have := part_elem (e := e) (z := z) ht hz hk hx [] o ho
  rwa [List.append_nil] at this
end
theorem part_all {T : Tab} {ty : Nat} {i : TI} (ht : T ty = some i) (hk : aggK i.k = true) {l : List AV} (hl : l.length = i.size) : partOf T ty l 0 = some (.agg l) := by
  unfold partOf
  rw [ht]
  simp only [hk, if_true, Nat.zero_add, hl, Nat.le_refl, List.drop_zero]
  rw [← hl, List.take_length]
theorem part_head {T : Tab} {ty : Nat} {i : TI} (ht : T ty = some i) (hz : 0 < i.size) {A B : List AV} {o : Nat} (ho : o + i.size ≤ A.length) : partOf T ty (A ++ B) o = partOf T ty A o := by
  unfold partOf
  rw [ht]
  simp only
  by_cases h : aggK i.k = true
  · rw [if_pos h, if_pos h, if_pos (by rw [List.length_append]; omega), if_pos ho, List.drop_append_of_le_length (by omega), List.take_append_of_le_length (by rw [List.length_drop]; omega)]
  · rw [if_neg h, if_neg h, List.getElem?_append_left (by omega)]
theorem part_skip {T : Tab} {ty : Nat} {i : TI} (ht : T ty = some i) {A B : List AV} {a o : Nat} (ha : A.length = a) : partOf T ty (A ++ B) (a + o) = partOf T ty B o := by
  subst ha
  unfold partOf
  rw [ht]
  simp only
  by_cases h : aggK i.k = true
  · rw [if_pos h, if_pos h]
    have e1 : List.drop (A.length + o) (A ++ B) = List.drop o B := by rw [← List.drop_drop, List.drop_left]
    by_cases h2 : o + i.size ≤ B.length
    · rw [if_pos h2, if_pos (by rw [List.length_append]; omega), e1]
    · rw [if_neg h2, if_neg (by rw [List.length_append]; omega)]
  · rw [if_neg h, if_neg h, List.getElem?_append_right (by omega)]
    congr 1; omega
theorem splice_all {l new : List AV} (h : l.length = new.length) : splice l 0 new = new := by
  unfold splice
  simp [← h]
theorem splice_head {A B new : List AV} {o : Nat} (h : o + new.length ≤ A.length) : splice (A ++ B) o new = splice A o new ++ B := by
  unfold splice
  rw [List.take_append_of_le_length (by omega), List.drop_append_of_le_length (by omega)]
  simp
theorem splice_skip {A B new : List AV} {a o : Nat} (h : A.length = a) : splice (A ++ B) (a + o) new = A ++ splice B o new := by
  subst h
  unfold splice
  rw [Nat.add_assoc, ← List.drop_drop, List.drop_left, List.take_append, List.take_of_length_le (by omega)]
  simp
theorem len_one (v : AV) : [v].length = 1 := rfl
section
variable {α : Type} {c : α → List AV} {z : Nat} [hE : Enc c z]
end
def Arr (n : Nat) (α : Type) : Type := { l : List α // l.length = n }
namespace Arr
variable {n : Nat} {α : Type}
def set (a : Arr n α) (i : Int) (x : α) : Arr n α := ⟨a.1.set i.toNat x, by rw [List.length_set]; exact a.2⟩
def rep (n : Nat) (x : α) : Arr n α := ⟨List.replicate n x, List.length_replicate ..⟩
theorem ext {a b : Arr n α} (h : a.1 = b.1) : a = b := Subtype.ext h
end Arr
def slc : Option Nat → Nat → Option Nat → AV
  | none, _, _ => .sc (.slice none 0 0)
  | some i, n, c => .osl i 0 n c
@[simp] theorem slc_none (n : Nat) (c : Option Nat) : slc none n c = .sc (.slice none 0 0) := rfl
@[simp] theorem slc_some (i n : Nat) (c : Option Nat) : slc (some i) n c = .osl i 0 n c := rfl
def OwnC {α : Type} (H : Mem) (ty z : Nat) (e : α → List AV) (o c : Option Nat) (xs : List α) : Prop :=
  match o with
  | none => xs = []
  | some i => ∃ ys, H i = some (.cells (encs e xs ++ ys) ty) ∧ ∀ k, c = some k → xs.length ≤ k ∧ k * z ≤ (encs e xs ++ ys).length
theorem OwnC.mono {α : Type} {H H' : Mem} {ty z : Nat} {e : α → List AV} {o c : Option Nat} {xs : List α} (h : OwnC H ty z e o c xs) (hk : ∀ i, o = some i → H' i = H i) : OwnC H' ty z e o c xs := by
  cases o with
  | none => exact h
  | some i =>
    obtain ⟨ys, h, h2⟩ := h
    exact ⟨ys, by rw [hk i rfl, h], h2⟩
section
variable {α : Type} {e : α → List AV} {z : Nat} [hE : Enc e z]
end
section
variable {T : Tab} {H : Mem} {ids : List Nat}
theorem viewL_mid {a x y b : List AV} (ha : freeL a = true) (hb : freeL b = true) (h : ViewL T H ids x y) : ViewL T H ids (a ++ x ++ b) (a ++ y ++ b) := by
  have key : ∀ {x y : List AV}, ViewL T H ids x y → ViewL T H ids (x ++ b) (y ++ b) := by
    intro x y h
    have k2 : ∀ (x y : List AV), ViewL T H ids x y → ViewL T H ids (x ++ b) (y ++ b) := by
      intro x
      induction x with
      | nil => intro y h; have := h.length; simp at this; subst this; exact .free hb
      | cons p x ih =>
        intro y h
        cases h with
        | free h => exact .free (by rw [freeL_append, h, hb]; rfl)
        | cons h1 h2 => exact .cons h1 (ih _ h2)
    exact k2 x y h
  rw [List.append_assoc, List.append_assoc]
  induction a with
  | nil => exact key h
  | cons p a ih =>
    simp only [freeL, Bool.and_eq_true] at ha
    exact .cons (.free ha.1) (ih ha.2)
theorem view_blk {cs : List AV} {i ty : Nat} (h : H i = some (.cells cs ty)) (hi : i ∈ ids) (hf : freeL cs = true) : View T H ids (.own i 0) (.sh cs) := .own hi h (by rw [List.drop_zero]; exact .free hf)
end
section
variable {P : Program} {T : Tab} {k : Nat} {st : List It} {t : Nat → AV} {H : Mem} {n : Nat} {C : Cont} {G : Array Oper} {l : List Oper}
theorem EvL.more {P : Program} {T : Tab} {k : Nat} {G : Array Oper} {l2 : List Oper} {s2 : St} : ∀ {l1 : List Oper} {s s1 : St}, EvL P T k G l1 s s1 → EvL P T k G l2 s1 s2 → EvL P T k G (l1 ++ l2) s s2
  | _, _, _, .nil, h => h
  | _, _, _, .skip a b c, h => .skip a b (EvL.more c h)
  | _, _, _, .op a b c d, h => .op a b c (EvL.more d h)
  | _, _, _, .weak ids hw c, h => .weak ids hw (EvL.more c h)
theorem Stk.jo (m : Nat) (K : (Nat → AV) → Mem → Nat → Prop) (h1 : ∀ J : Nat → (Nat → AV) → Mem → Nat → Prop, (∀ t H n, K t H n → J 0 t H n) → Stk P T k (.ops G (l.take m) :: .loop J 1 :: st) t H n C) (h2 : ∀ t H n, K t H n → Stk P T k (.ops G (l.drop m) :: st) t H n C) : Stk P T k (.ops G l :: st) t H n C := by
  have h := h1 (fun _ => K) fun _ _ _ h => h
  have key : ∀ (l1 l2 : List Oper) (s : St) (Q : St → Prop), EvLQ P T k G l1 s (fun s => EvLQ P T k G l2 s Q) → EvLQ P T k G (l1 ++ l2) s Q := fun l1 l2 s Q ⟨s1, q1, s2, q2, q3⟩ => ⟨s2, EvL.more q1 q2, q3⟩
  have e : l = l.take m ++ l.drop m := (List.take_append_drop m l).symm
  rw [e]
  simp only [Stk] at h ⊢
  refine key _ _ _ _ ?_
  obtain ⟨s', q1, m', _, q2⟩ := h
  exact ⟨s', q1, by have := h2 _ _ _ q2; simp only [Stk] at this; exact this⟩
variable {cl : List Cls} {R : List Nat}
theorem Stk.jd (m : Nat) (K : (Nat → AV) → Mem → Nat → Prop) (h1 : ∀ J : Nat → (Nat → AV) → Mem → Nat → Prop, (∀ t H n, K t H n → J 0 t H n) → Stk P T k (.opsD G cl (R.take m) :: .loop J 1 :: st) t H n C) (h2 : ∀ t H n, K t H n → Stk P T k (.opsD G cl (R.drop m) :: st) t H n C) : Stk P T k (.opsD G cl R :: st) t H n C := by
  have h := h1 (fun _ => K) fun _ _ _ h => h
  have key : ∀ (l1 l2 : List Nat) (s s1 s2 : St), EvD P T k G cl l1 s s1 → EvD P T k G cl l2 s1 s2 → EvD P T k G cl (l1 ++ l2) s s2 := by
    intro l1 l2 s s1 s2 q1 q2
    induction l1 generalizing s with
    | nil => cases q1; exact q2
    | cons o l1 ih =>
      cases q1 with
      | skip a b c d => exact .skip a b c (ih _ d)
      | rd a b c d e f g => exact .rd a b c d e f (ih _ g)
      | mem a b c d e f g => exact .mem a b c d e f (ih _ g)
  have e : R = R.take m ++ R.drop m := (List.take_append_drop m R).symm
  rw [e]
  simp only [Stk] at h ⊢
  obtain ⟨s', q1, m', _, q2⟩ := h
  have := h2 _ _ _ q2
  simp only [Stk] at this
  obtain ⟨s2, q3, q4⟩ := this
  exact ⟨s2, key _ _ _ _ _ q1 q3, q4⟩
end
section
variable {P : Program} {T : Tab} {k : Nat} {st : List It} {t : Nat → AV} {H H' : Mem} {n n' : Nat} {C : Cont} {G : Array Oper} {l : List Oper} {o : Oper} {v : AV} {cl : List Cls} {i : Nat} {R : List Nat}
theorem Stk.om (hv : mop T t H n o.op = some (v, H', n')) (h1 : wantedA G o t = some true) (h2 : dstOk k o = true) (h : ∀ t', t' = putA t o.dst v → Stk P T k (.ops G l :: st) t' H' n' C) : Stk P T k (.ops G (o :: l) :: st) t H n C := by
  have := h _ rfl
  simp only [Stk] at this ⊢
  exact EvLQ.op (s := ⟨t, H, n⟩) h1 h2 (.mop hv) this
theorem Stk.omD {S : List Nat} {b : Nat} (hcl : cl[i]? = some (.mem S b)) (hk : ∀ j, j < b → j ∉ S → H' j = H j) (h0 : G[i]? = some o) (hv : mop T t H n o.op = some (v, H', n')) (h1 : wantedA G o t = some true) (h2 : dstOk k o = true) (h : ∀ t', t' = putA t o.dst v → Stk P T k (.opsD G cl R :: st) t' H' n' C) : Stk P T k (.opsD G cl (i :: R) :: st) t H n C := by
  have := h _ rfl
  simp only [Stk] at this ⊢
  obtain ⟨s', q1, q2⟩ := this
  exact ⟨s', .mem h0 h1 h2 (.mop hv) hcl hk q1, q2⟩
theorem Stk.ov (hv : vop T t H o.op = some v) (h1 : wantedA G o t = some true) (h2 : dstOk k o = true) (h : ∀ t', t' = putA t o.dst v → Stk P T k (.ops G l :: st) t' H n C) : Stk P T k (.ops G (o :: l) :: st) t H n C := by
  have := h _ rfl
  simp only [Stk] at this ⊢
  exact EvLQ.op (s := ⟨t, H, n⟩) h1 h2 (.vop hv) this
theorem Stk.ovD {R' : List Nat} (hcl : cl[i]? = some (.rd R')) (hk : ∀ j ∈ readsOf t o.op, j ∈ R') (h0 : G[i]? = some o) (hv : vop T t H o.op = some v) (h1 : wantedA G o t = some true) (h2 : dstOk k o = true) (h : ∀ t', t' = putA t o.dst v → Stk P T k (.opsD G cl R :: st) t' H n C) : Stk P T k (.opsD G cl (i :: R) :: st) t H n C := by
  have := h _ rfl
  simp only [Stk] at this ⊢
  obtain ⟨s', q1, q2⟩ := this
  exact ⟨s', .rd h0 h1 h2 (.vop hv) hcl hk q1, q2⟩
theorem mop_alloc {ty : Nat} {i : TI} (ht : T ty = some i) {cs : List AV} (hc : i.zero.map .sc = cs) : mop T t H n (.alloc ty) = some (.own n 0, upd H n (some (.cells cs ty)), n + 1) := by
  subst hc; simp only [mop, ht]
theorem vw_zs {ids : List Nat} (v : Value) : Vw T H ids (.sc v) (zs v) := by
  unfold zs
  split
  · exact .inr (.inr .nilS)
  · exact .inl rfl
theorem Stk.oz {ty : Nat} {i : TI} (ht : T ty = some i) {cs : List AV} (hc : i.zero.map zs = cs) (ho : o.op = .alloc ty) (h1 : wantedA G o t = some true) (h2 : dstOk k o = true)
    (h : ∀ t', t' = putA t o.dst (.own n 0) → Stk P T k (.ops G l :: st) t' (upd H n (some (.cells cs ty))) (n + 1) C) : Stk P T k (.ops G (o :: l) :: st) t H n C := by
  refine Stk.om (H' := upd H n (some (.cells (i.zero.map .sc) ty))) (n' := n + 1) (v := .own n 0) (by rw [ho]; exact mop_alloc ht rfl) h1 h2 (fun t' ht' => ?_)
  have hw : Weak T ⟨t', upd H n (some (.cells (i.zero.map .sc) ty)), n + 1⟩ ⟨t', upd H n (some (.cells cs ty)), n + 1⟩ [] := by
    refine ⟨fun i => .inl rfl, fun j => ?_, Nat.le_refl _⟩
    by_cases e : j = n
    · subst e
      refine .inr ⟨by simp, .inr ⟨_, _, ty, upd_same _ _ _, upd_same _ _ _, by rw [← hc]; simp, fun q a' ha => ?_⟩⟩
      rw [← hc, List.getElem?_map] at ha
      cases hz : i.zero[q]? with
      | none => rw [hz] at ha; cases ha
      | some v =>
        rw [hz] at ha; cases ha
        exact ⟨.sc v, by rw [List.getElem?_map, hz]; rfl, vw_zs v⟩
    · exact .inr ⟨by simp, .inl (by show upd _ _ _ _ = upd _ _ _ _; rw [upd_ne _ _ e, upd_ne _ _ e])⟩
  have := h t' ht'
  simp only [Stk] at this ⊢
  exact EvLQ.weak [] hw this
theorem mop_box {ty : Nat} {i : TI} (ht : T ty = some i) {x : Operand} {cs : List AV} (hp : partOk (ev t x) = true) (hc : cellsOf (ev t x) = cs) : mop T t H n (.box ty x) = some (.own n 0, upd H n (some (.cells cs ty)), n + 1) := by
  subst hc; simp only [mop, hp, ht]; rfl
theorem mop_range {ty : Nat} {i : TI} (ht : T ty = some i) (hk : i.k = .str) {x : Operand} {s : ByteArray} (hx : ev t x = .sc (.string s)) : mop T t H n (.range ty x) = some (.own n 0, upd H n (some (.iter s 0)), n + 1) := by
  simp only [mop, ht, hx, hk]
theorem mop_nextT {x : Operand} {b p : Nat} {s : ByteArray} (hx : ev t x = .own b 0) (hb : H b = some (.iter s p)) (hp : p < s.size) : mop T t H n (.next x true) = some (.tup [B true, I p, .sc (.int .i32 (Utf8.decode s p).1)], upd H b (some (.iter s (p + (Utf8.decode s p).2))), n) := by
  simp only [mop, hx, hb, hp, if_true]
theorem mop_nextF {x : Operand} {b p : Nat} {s : ByteArray} (hx : ev t x = .own b 0) (hb : H b = some (.iter s p)) (hp : ¬ p < s.size) : mop T t H n (.next x true) = some (.tup [B false], H, n) := by
  simp only [mop, hx, hb, hp, if_false]
theorem mop_store {ty z ety b o : Nat} {a x : Operand} {cs cs' : List AV} {v : AV} (hz : sizeT T ty = some z) (ha : ev t a = .own b o) (hb : H b = some (.cells cs ety)) (hv : ev t x = v) (hl : (cellsOf v).length = z) (hle : o + z ≤ cs.length) (hok : (cellsOf v).all cellOk = true) (hs : splice cs o (cellsOf v) = cs') :
    mop T t H n (.store ty a x) = some (.tup [], upd H b (some (.cells cs' ety)), n) := by
  subst hs hv
  simp only [mop, hz, ha, hb]
  rw [if_pos ⟨hl, hle, hok⟩]
section
variable {α : Type} {c : α → List AV} {z : Nat} [hE : Enc c z]
end
end
inductive FillTo (T : Tab) (fs : List (Nat × Nat)) : List AV → List (Nat × AV) → List AV → Prop
  | nil {cs : List AV} : FillTo T fs cs [] cs
  | cons {cs cs1 cs' new : List AV} {j off ft z : Nat} {v w : AV} {rest : List (Nat × AV)} : v = w → fs[j]? = some (off, ft) → sizeT T ft = some z → partOk w = true → cellsOf w = new → new.length = z → off + z ≤ cs.length → splice cs off new = cs1 → FillTo T fs cs1 rest cs' → FillTo T fs cs ((j, v) :: rest) cs'
theorem FillTo.eq {T : Tab} {fs : List (Nat × Nat)} {cs cs' : List AV} {ps : List (Nat × AV)} (h : FillTo T fs cs ps cs') :
    fillAV (fun j => match fs[j]? with | some (off, ft) => (match sizeT T ft with | some z => some (off, z) | none => none) | none => none) cs ps = some cs' := by
  induction h with
  | nil => rfl
  | cons h0 h1 h2 h3 h4 h5 h6 h7 _ ih =>
    subst h0 h4 h7
    simp only [fillAV, h1, h2]
    rw [if_pos ⟨h3, h5, h6⟩]
    rw [← h5]
    exact ih
theorem vop_build {T : Tab} {t : Nat → AV} {H : Mem} {ty : Nat} {i : TI} {fs : List (Nat × Nat)} (ht : T ty = some i) (hk : i.k = .struct fs) (hall : fs.all (fun f => (sizeT T f.2).isSome) = true) {ps : Array (Nat × Operand)} {cs cs' : List AV} (hz : i.zero.map zs = cs)
    (h : FillTo T fs cs (ps.toList.map fun p => (p.1, ev t p.2)) cs') (hm : (i.ex || i.zero.any isMapZ) = false := by rfl) : vop T t H (.build ty ps) = some (.agg cs') := by
  subst hz
  have hzb : zb i = i.zero.map zs := by unfold zb; rw [if_neg (by rw [hm]; decide)]
  simp only [vop, ht, hk, hzb]
  rw [if_pos hall]
  exact congrArg (Option.map AV.agg) h.eq
inductive FillP (place : Nat → Option (Nat × Nat)) : List AV → List (Nat × AV) → List AV → Prop
  | nil {cs : List AV} : FillP place cs [] cs
  | cons {cs cs1 cs' new : List AV} {j off z : Nat} {v w : AV} {rest : List (Nat × AV)} : v = w → place j = some (off, z) → partOk w = true → cellsOf w = new → new.length = z → off + z ≤ cs.length → splice cs off new = cs1 → FillP place cs1 rest cs' → FillP place cs ((j, v) :: rest) cs'
theorem FillP.eq {place : Nat → Option (Nat × Nat)} {cs cs' : List AV} {ps : List (Nat × AV)} (h : FillP place cs ps cs') : fillAV place cs ps = some cs' := by
  induction h with
  | nil => rfl
  | cons h0 h1 h3 h4 h5 h6 h7 _ ih =>
    subst h0 h4 h7
    simp only [fillAV, h1]
    rw [if_pos ⟨h3, h5, h6⟩]
    rw [← h5]
    exact ih
theorem RunF.nilArg {P : Program} {T : Tab} {f : FuncId} (pre post : List AV) {full : Bool} {r : AV} (h1 : ∀ a, (a = .sc (.slice none 0 0) ∨ a = .esl full) → RunF P T f (pre ++ a :: post) r) : RunF P T f (pre ++ .ssl [] 0 full :: post) r := by
  obtain ⟨H1, n1, a1⟩ := h1 _ (.inl rfl)
  obtain ⟨H2, n2, a2⟩ := h1 _ (.inr rfl)
  have key : ∀ {args : List AV} {H' : Mem} {n' m : Nat}, n' ≤ m → Run P T f args (fun _ => none) 0 r H' n' → Run P T f args (fun _ => none) 0 r (fun _ => none) m := by
    intro args H' n' m hm h
    exact Run.weak [] h ⟨fun i => .inl rfl, fun i => .inl rfl, hm⟩ (.inl rfl)
  exact ⟨fun _ => none, max n1 n2, Run.nilArg pre post (key (Nat.le_max_left _ _) a1) (key (Nat.le_max_right _ _) a2)⟩
end Go.Proofs.YtappiofmkoelnaaGreatDoorW.Ah
end
section
namespace Go.Proofs.YtappiofmkoelnaaGreatDoorW.Ah
set_option linter.unusedVariables false
set_option linter.unusedSimpArgs false
abbrev Mm := Nat → Option Blk
def memOf (t : Nat → AV) (b : Nat) : Op → List Nat
  | .store _ a _ => (match ev t a with | .own i _ => [i] | _ => [])
  | .next a _ => (match ev t a with | .own i _ => [i] | _ => [])
  | .mapUpdate _ m _ _ | .mapEntry _ m _ | .entryStore _ m _ _ => (match ev t m with | .omap i => [i] | _ => [])
  | .call { callee := .builtin _, args, .. } => (match args.toList.map (ev t) with | .osl i _ _ _ :: _ => [i] | .omap i :: _ => [i] | _ => [])
  | .call _ => List.range b
  | _ => []
def anyOrder (T : Tab) (G : Array Oper) (cl : List Cls) : Option (Option Nat) :=
  (none :: (List.range G.size).map some).find? fun q => drawOk G cl q && lateOk T G q
def eqLeaf (T : Tab) (t : Nat) (x y : AV) : Option Bool :=
  match T t with
  | none => none
  | some i =>
    match i.k, x, y with
    | .bool, .sc (.bool a), .sc (.bool b) => some (a == b)
    | .int _, .sc (.int k a), .sc (.int k' b) => if k = k' then some (a == b) else none
    | .str, .sc (.string a), .sc (.string b) => some (a == b)
    | .slice _, .sc (.slice none 0 0), .sc (.slice none 0 0) => some true
    | .slice _, .sc (.slice none 0 0), .osl .. => some false
    | .slice _, .sc (.slice none 0 0), .esl _ => some false
    | .slice _, .sc (.slice none 0 0), .ssl _ n _ => if n = 0 then none else some false
    | .slice _, .osl .., .sc (.slice none 0 0) => some false
    | .slice _, .esl _, .sc (.slice none 0 0) => some false
    | .slice _, .ssl _ n _, .sc (.slice none 0 0) => if n = 0 then none else some false
    | .ptr _, .sc (.pointer none), .sc (.pointer none) => some true
    | .ptr _, .sc (.pointer none), .own .. => some false
    | .ptr _, .own .., .sc (.pointer none) => some false
    | .ptr _, .sc (.pointer none), .sh _ => some false
    | .ptr _, .sh _, .sc (.pointer none) => some false
    | .func, .sc .nilFunc, .sc .nilFunc => some true
    | .func, .sc .nilFunc, .fn .. => some false
    | .func, .fn .., .sc .nilFunc => some false
    | _, _, _ => none
theorem eqLeaf_ok {T : Tab} {d t : Nat} {x y : AV} {r : Bool} (h : eqLeaf T t x y = some r) : eqT T (d + 1) t x y = some r := by
  unfold eqLeaf at h
  unfold eqT
  cases ht : T t with
  | none => rw [ht] at h; cases h
  | some i =>
    rw [ht] at h
    simp only at h ⊢
    split at h <;> first | (cases h; done) | (rename_i hk; simp only [hk]; exact h) | (simp_all; done)
mutual
def eqX (T : Tab) : Nat → Nat → AV → AV → Option Bool
  | 0, _, _, _ => none
  | f + 1, t, x, y =>
    match T t with
    | none => none
    | some i =>
      match i.k, x, y with
      | .struct fs, .agg xs, .agg ys => if i.eq = true then eqXF T f fs xs ys else none
      | .arr n e, .agg xs, .agg ys => if i.eq = true then (match T e with | some j => eqXE T f e j.size (List.range' 0 n) xs ys | none => none) else none
      | _, _, _ => eqLeaf T t x y
def eqXF (T : Tab) : Nat → List (Nat × Nat) → List AV → List AV → Option Bool
  | 0, _, _, _ => none
  | _ + 1, [], _, _ => some true
  | f + 1, (off, t) :: fs, xs, ys =>
    match partOf T t xs off, partOf T t ys off with
    | some a, some b =>
      match eqX T f t a b, eqXF T f fs xs ys with
      | some r, some s => some (r && s)
      | _, _ => none
    | _, _ => none
def eqXE (T : Tab) : Nat → Nat → Nat → List Nat → List AV → List AV → Option Bool
  | 0, _, _, _, _, _ => none
  | _ + 1, _, _, [], _, _ => some true
  | f + 1, e, z, k :: ks, xs, ys =>
    match partOf T e xs (k * z), partOf T e ys (k * z) with
    | some a, some b =>
      match eqX T f e a b, eqXE T f e z ks xs ys with
      | some r, some s => some (r && s)
      | _, _ => none
    | _, _ => none
end
theorem eqX_ok {T : Tab} : ∀ f : Nat, (∀ d t x y r, f ≤ d → eqX T f t x y = some r → eqT T d t x y = some r) ∧ (∀ d fs xs ys r, f ≤ d → eqXF T f fs xs ys = some r → eqT.eqFs T d fs xs ys = some r) ∧ (∀ d e z ks xs ys r, f ≤ d → eqXE T f e z ks xs ys = some r → eqT.eqEls T d e z ks xs ys = some r)
  | 0 => ⟨fun d t x y r _ h => by simp [eqX] at h, fun d fs xs ys r _ h => by simp [eqXF] at h, fun d e z ks xs ys r _ h => by simp [eqXE] at h⟩
  | f + 1 => by
    obtain ⟨ih1, ih2, ih3⟩ := eqX_ok (T := T) f
    refine ⟨fun d t x y r hd h => ?_, fun d fs xs ys r hd h => ?_, fun d e z ks xs ys r hd h => ?_⟩
    · obtain ⟨d, rfl⟩ : ∃ d', d = d' + 1 := ⟨d - 1, by omega⟩
      simp only [eqX] at h
      split at h
      · cases h
      · rename_i i ht
        split at h
        · rename_i fs xs ys hk
          split at h
          · rename_i he
            have := ih2 d fs xs ys r (by omega) h
            unfold eqT; rw [ht]; simp only [hk, he, if_true]; exact this
          · cases h
        · rename_i n e xs ys hk
          split at h
          · rename_i he
            split at h
            · rename_i j hj
              have := ih3 d e j.size _ xs ys r (by omega) h
              unfold eqT; rw [ht]; simp only [hk, he, if_true, hj]; exact this
            · cases h
          · cases h
        · exact eqLeaf_ok h
    · cases fs with
      | nil => simp only [eqXF] at h; cases h; simp [eqT.eqFs]
      | cons p fs =>
        obtain ⟨off, t⟩ := p
        simp only [eqXF] at h
        split at h
        · rename_i a b ha hb
          split at h
          · rename_i r1 r2 h1 h2
            cases h
            simp only [eqT.eqFs, ha, hb, ih1 d _ _ _ _ (by omega) h1, ih2 d _ _ _ _ (by omega) h2]
          · cases h
        · cases h
    · cases ks with
      | nil => simp only [eqXE] at h; cases h; simp [eqT.eqEls]
      | cons k ks =>
        simp only [eqXE] at h
        split at h
        · rename_i a b ha hb
          split at h
          · rename_i r1 r2 h1 h2
            cases h
            simp only [eqT.eqEls, ha, hb, ih1 d _ _ _ _ (by omega) h1, ih3 d _ _ _ _ _ _ (by omega) h2]
          · cases h
        · cases h
def isNum : AV → Bool
  | .sc (.int _ _) => true
  | .sc (.string _) => true
  | _ => false
def binX (T : Tab) (op : BinOp) (t : Nat) (x y : AV) : Option AV :=
  match op with
  | .eql => if (isNum x && isNum y) = true then binAV T .eql t x y else (eqX T 200 t x y).map fun b => .sc (.bool b)
  | .neq => if (isNum x && isNum y) = true then binAV T .neq t x y else (eqX T 200 t x y).map fun b => .sc (.bool !b)
  | op => binAV T op t x y
theorem maxDepth_ge : 200 ≤ Op.maxDepth := by decide
theorem binX_ok {T : Tab} {op : BinOp} {t : Nat} {x y v : AV} (h : binX T op t x y = some v) : binAV T op t x y = some v := by
  unfold binX at h
  split at h
  · split at h
    · exact h
    · rename_i hn
      simp only [Option.map_eq_some_iff] at h
      obtain ⟨b, hb, rfl⟩ := h
      have := (eqX_ok (T := T) 200).1 Op.maxDepth t x y b maxDepth_ge hb
      unfold binAV
      split <;> first | (simp [isNum] at hn; done) | simp_all
  · split at h
    · exact h
    · rename_i hn
      simp only [Option.map_eq_some_iff] at h
      obtain ⟨b, hb, rfl⟩ := h
      have := (eqX_ok (T := T) 200).1 Op.maxDepth t x y b maxDepth_ge hb
      unfold binAV
      split <;> first | (simp [isNum] at hn; done) | simp_all
  · exact h
def vopX (T : Tab) (t : Nat → AV) (H : Mm) : Op → Option AV
  | .binOp op ty x y _ => binX T op ty (ev t x) (ev t y)
  | op => vop T t H op
theorem vopX_ok {T : Tab} {t : Nat → AV} {H : Mm} {op : Op} {v : AV} (h : vopX T t H op = some v) : vop T t H op = some v := by
  unfold vopX at h
  split at h
  · simp only [vop]; exact binX_ok h
  · exact h
mutual
def viewE (H : Mm) : Nat → AV → Option (AV × List Nat)
  | 0, _ => none
  | f + 1, a =>
    if free a = true then some (a, []) else
    match a with
    | .own i o =>
      match H i with
      | some (.cells cs _) =>
        match viewEL H f (cs.drop o) with
        | some (cs', ids) => some (.sh cs', i :: ids)
        | none => none
      | _ => none
    | .osl i o n c =>
      match H i with
      | some (.cells cs _) =>
        match viewEL H f ((cs.drop o).take cs.length) with
        | some (cs', ids) => some (.ssl cs' n (c == some n), i :: ids)
        | none => none
      | _ => none
    | .agg cs =>
      match viewEL H f cs with
      | some (cs', ids) => some (.agg cs', ids)
      | none => none
    | .tup cs =>
      match viewEL H f cs with
      | some (cs', ids) => some (.tup cs', ids)
      | none => none
    | .fn g x y =>
      match viewEL H f x, viewEL H f y with
      | some (x', i1), some (y', i2) => some (.fn g x' y', i1 ++ i2)
      | _, _ => none
    | _ => none
def viewEL (H : Mm) : Nat → List AV → Option (List AV × List Nat)
  | 0, _ => none
  | _ + 1, [] => some ([], [])
  | f + 1, a :: as' =>
    if freeL (a :: as') = true then some (a :: as', []) else
    match viewE H f a, viewEL H f as' with
    | some (a', i1), some (as'', i2) => some (a' :: as'', i1 ++ i2)
    | _, _ => none
end
theorem view_e {T : Tab} {H : Mm} : ∀ f : Nat, (∀ a a' ids, viewE H f a = some (a', ids) → ∀ js : List Nat, (∀ i ∈ ids, i ∈ js) → View T H js a a') ∧ (∀ as' as'' ids, viewEL H f as' = some (as'', ids) → ∀ js : List Nat, (∀ i ∈ ids, i ∈ js) → ViewL T H js as' as'')
  | 0 => ⟨fun a a' ids h => by simp [viewE] at h, fun as' as'' ids h => by simp [viewEL] at h⟩
  | f + 1 => by
    obtain ⟨ih1, ih2⟩ := view_e (T := T) (H := H) f
    constructor
    · intro a a' ids h js hj
      simp only [viewE] at h
      split at h
      · rename_i hf; cases h; exact .free hf
      · split at h
        · split at h
          · rename_i hi
            split at h
            · rename_i hv; cases h; exact .own (hj _ (by simp)) hi (ih2 _ _ _ hv js fun i hi => hj i (by simp [hi]))
            · cases h
          · cases h
        · split at h
          · rename_i hi
            split at h
            · rename_i hv; cases h; exact .osl _ (hj _ (by simp)) hi (ih2 _ _ _ hv js fun i hi => hj i (by simp [hi]))
            · cases h
          · cases h
        · split at h
          · rename_i hv; cases h; exact .agg (ih2 _ _ _ hv js hj)
          · cases h
        · split at h
          · rename_i hv; cases h; exact .tup (ih2 _ _ _ hv js hj)
          · cases h
        · split at h
          · rename_i h1 h2; cases h
            exact .fn (ih2 _ _ _ h1 js fun i hi => hj i (by simp [hi])) (ih2 _ _ _ h2 js fun i hi => hj i (by simp [hi]))
          · cases h
        · cases h
    · intro as' as'' ids h js hj
      cases as' with
      | nil => simp only [viewEL] at h; cases h; exact .nil
      | cons a as' =>
        simp only [viewEL] at h
        split at h
        · rename_i hf; cases h; exact .free hf
        split at h
        · rename_i h1 h2; cases h
          exact .cons (ih1 _ _ _ h1 js fun i hi => hj i (by simp [hi])) (ih2 _ _ _ h2 js fun i hi => hj i (by simp [hi]))
        · cases h
section
variable (P : Program) (T : Tab)
mutual
def xCode : Nat → Nat → Code → St → Option (St × Ex)
  | 0, _, _, _ => none
  | f + 1, k, c, s =>
    match c with
    | .skip => some (s, .normal)
    | .label _ => some (s, .normal)
    | .exit id => some (s, .exit id)
    | .goto l => some (s, .goto l)
    | .ret => some (s, .ret)
    | .seq a b =>
      match xCode f k a s with
      | some (s1, .normal) => xCode f k b s1
      | r => r
    | .cond c a b =>
      match ev s.t c with
      | .sc (.bool true) => xCode f k a s
      | .sc (.bool false) => xCode f k b s
      | _ => none
    | .block id a =>
      match xCode f k a s with
      | some (s1, .exit j) => if j = id then some (s1, .normal) else some (s1, .exit j)
      | r => r
    | .loop a => xLoop f k a s
    | .scope a => xScope f k a a s
    | .region _ ops false =>
      match xOps f k ops ops.toList s with
      | some s1 => some (s1, .normal)
      | none => none
    | .region _ ops true =>
      if P.follows .mixedOrders = true then
        match xOpsD f k ops (List.range ops.size) s.n [] s with
        | some (s1, cl) =>
          match anyOrder T ops cl with
          | some _ => some (s1, .normal)
          | none => none
        | none => none
      else none
    | .rangeFunc g ps asg bod =>
      match ev s.t g with
      | .fn (.func g) first caps =>
        match xRun f g (first ++ [.yld s.n] ++ caps) (upd s.H s.n (some (.loop s.t k ps asg bod .ready))) (s.n + 1) with
        | some (_, H', n') =>
          match H' s.n with
          | some (.loop _ _ _ _ _ .ready) => some (⟨s.t, upd H' s.n none, n'⟩, .normal)
          | some (.loop _ _ _ _ _ (.done c)) => xCode f k c ⟨s.t, upd H' s.n none, n'⟩
          | _ => none
        | none => none
      | _ => none
    | _ => none
def xLoop : Nat → Nat → Code → St → Option (St × Ex)
  | 0, _, _, _ => none
  | f + 1, k, c, s =>
    match xCode f k c s with
    | some (s1, .normal) => xLoop f k c s1
    | r => r
def xScope : Nat → Nat → Code → Code → St → Option (St × Ex)
  | 0, _, _, _, _ => none
  | f + 1, k, b, c, s =>
    match xCode f k c s with
    | some (s1, .goto l) =>
      match findLabel b l with
      | some rest => xScope f k b rest s1
      | none => none
    | r => r
def xOps : Nat → Nat → Array Oper → List Oper → St → Option St
  | 0, _, _, _, _ => none
  | f + 1, k, G, l, s =>
    match l with
    | [] => some s
    | o :: l =>
      if dstOk k o = true then
        match wantedA G o s.t with
        | some true =>
          match xDoes f o s.t s.H s.n with
          | some (v, H', n', _) => xOps f k G l ⟨putA s.t o.dst v, H', n'⟩
          | none => none
        | some false => xOps f k G l ⟨putA s.t o.dst (.tup []), s.H, s.n⟩
        | none => none
      else none
def xOpsD : Nat → Nat → Array Oper → List Nat → Nat → List Cls → St → Option (St × List Cls)
  | 0, _, _, _, _, _, _ => none
  | f + 1, k, G, l, b, cl, s =>
    match l with
    | [] => some (s, cl)
    | i :: l =>
      match G[i]? with
      | some o =>
        if dstOk k o = true ∧ i = cl.length ∧ b ≤ s.n then
          match wantedA G o s.t with
          | some true =>
            match xDoes f o s.t s.H s.n with
            | some (v, H', n', some R) => xOpsD f k G l b (cl ++ [.rd R]) ⟨putA s.t o.dst v, s.H, s.n⟩
            | some (v, H', n', none) => xOpsD f k G l b (cl ++ [.mem (memOf s.t b o.op) b]) ⟨putA s.t o.dst v, H', n'⟩
            | none => none
          | some false => xOpsD f k G l b (cl ++ [.rd []]) ⟨putA s.t o.dst (.tup []), s.H, s.n⟩
          | none => none
        else none
      | none => none
def xDoes : Nat → Oper → (Nat → AV) → Mm → Nat → Option (AV × Mm × Nat × Option (List Nat))
  | 0, _, _, _, _ => none
  | f + 1, o, t, H, n =>
    match vopX T t H o.op with
    | some v => some (v, H, n, some (readsOf t o.op))
    | none =>
      match mop T t H n o.op with
      | some (v, H', n') => some (v, H', n', none)
      | none =>
        match o.op with
        | .call c =>
          match c.callee with
          | .value fv =>
            match ev t fv with
            | .fn (.func g) first caps =>
              if freeL (first ++ c.args.toList.map (ev t) ++ caps) = true then
                match xRun f g (first ++ c.args.toList.map (ev t) ++ caps) (fun _ => none) 0 with
                | some (v, _, _) => if free v = true then some (v, H, n, some []) else
                  match xRun f g (first ++ c.args.toList.map (ev t) ++ caps) H n with
                  | some (v, H', n') => some (v, H', n', none)
                  | none => none
                | none => none
              else
                match (match viewEL H 400 (first ++ c.args.toList.map (ev t) ++ caps) with
                  | some (args', ids) =>
                    (match xRun f g args' (fun _ => none) 0 with
                    | some (v, _, _) => if flat v = true then some (v, ids) else none
                    | none => none)
                  | none => none) with
                | some (v, ids) => some (v, H, n, some ids)
                | none =>
                  match xRun f g (first ++ c.args.toList.map (ev t) ++ caps) H n with
                  | some (v, H', n') => some (v, H', n', none)
                  | none => none
            | .yld i =>
              match H i with
              | some (.loop t0 k ps asg bod .ready) =>
                if ps.size = c.args.size ∧ ps.toList.all (fun p => decide (p < k)) = true then
                  match xCode f k asg ⟨fillT t0 (ps.toList.zip (c.args.toList.map (ev t))), H, n⟩ with
                  | some (s1, .normal) =>
                    match s1.H i with
                    | some (.loop t1 k1 ps1 asg1 bod1 .ready) =>
                      match xCode f k bod ⟨s1.t, upd s1.H i (some (.loop t1 k1 ps1 asg1 bod1 .busy)), s1.n⟩ with
                      | some (s2, e) =>
                        match s2.H i with
                        | some (.loop t2 k2 ps2 asg2 bod2 .busy) => some (B (e == .normal), upd s2.H i (some (.loop t2 k2 ps2 asg2 bod2 e.stt)), s2.n, none)
                        | _ => none
                      | none => none
                    | _ => none
                  | _ => none
                else none
              | _ => none
            | _ => none
          | _ => none
        | _ => none
def xRun : Nat → FuncId → List AV → Mm → Nat → Option (AV × Mm × Nat)
  | 0, _, _, _, _ => none
  | f + 1, g, args, H, n =>
    match P.funcs[g]? with
    | some fn =>
      match fn.body with
      | some c =>
        if (fn.name == "runtime.NumGoroutine") = false ∧ args.length ≤ fn.ntmps then
          match xCode f fn.ntmps c ⟨initT args, H, n⟩ with
          | some (s', .ret) =>
            match resOf T fn.results.toList s' with
            | some r => some (r, s'.H, s'.n)
            | none => none
          | some (s', .normal) =>
            match resOf T fn.results.toList s' with
            | some r => some (r, s'.H, s'.n)
            | none => none
          | _ => none
        else none
      | none => none
    | none => none
end
end
section
variable {P : Program} {T : Tab}
theorem mop_keeps {t : Nat → AV} {H H' : Mm} {n n' b : Nat} {v : AV} {op : Op} (h : mop T t H n op = some (v, H', n')) (hb : b ≤ n) : ∀ j, j < b → j ∉ memOf t b op → H' j = H j := by
  intro j hj hm
  cases op with
  | call c =>
    obtain ⟨callee, args, ats⟩ := c
    cases callee with
    | builtin bi =>
      cases bi with
      | append =>
        simp only [mop] at h
        simp only [memOf] at hm
        split at h
        case h_2 => cases h
        case h_1 x y st yt e1 e2 =>
          rw [e1] at hm
          have fin : appendAV T H n st x y = some (v, H', n') → H' j = H j := by
            intro h
            unfold appendAV at h
            repeat' split at h
            all_goals first
              | (cases h; done)
              | (simp only [Option.some.injEq, Prod.mk.injEq] at h; obtain ⟨_, rfl, _⟩ := h)
            all_goals first
              | rfl
              | (simp only [List.mem_singleton] at hm; rw [upd_ne _ _ hm]; done)
              | (rw [upd_ne _ _ (by omega)]; done)
              | (simp only [List.mem_singleton] at hm; rw [upd_ne _ _ (by omega), upd_ne _ _ hm]; done)
          split at h
          case h_2 => cases h
          case h_1 =>
            split at h
            · exact fin h
            · exact fin h
            · cases h
      | copy =>
        simp only [mop] at h
        simp only [memOf] at hm
        split at h
        case h_2 => cases h
        case h_1 x y st e1 e2 =>
          rw [e1] at hm
          repeat' split at h
          all_goals first
            | (cases h; done)
            | (simp only [Option.some.injEq, Prod.mk.injEq] at h; obtain ⟨_, rfl, _⟩ := h)
          all_goals first
            | rfl
            | (simp only [List.mem_singleton] at hm; rw [upd_ne _ _ hm]; done)
      | clear =>
        simp only [mop] at h
        simp only [memOf] at hm
        split at h
        case h_2 => cases h
        case h_1 i' o' m c st e1 e2 =>
          rw [e1] at hm
          repeat' split at h
          all_goals first
            | (cases h; done)
            | (simp only [Option.some.injEq, Prod.mk.injEq] at h; obtain ⟨_, rfl, _⟩ := h)
          all_goals first
            | rfl
            | (simp only [List.mem_singleton] at hm; rw [upd_ne _ _ hm]; done)
      | delete =>
        simp only [mop] at h
        simp only [memOf] at hm
        split at h
        case h_2 => cases h
        case h_1 i v' mt rest e1 e2 =>
          rw [e1] at hm
          repeat' split at h
          all_goals first
            | (cases h; done)
            | (simp only [Option.some.injEq, Prod.mk.injEq] at h; obtain ⟨_, rfl, _⟩ := h)
          all_goals (simp only [List.mem_singleton] at hm; rw [upd_ne _ _ hm])
      | _ => simp [mop] at h
    | _ => simp [mop] at h
  | makeMap mt x =>
    cases x with
    | some x => simp [mop] at h
    | none => simp only [mop] at h; cases h; rw [upd_ne _ _ (by omega)]
  | next x q =>
    cases q with
    | false => simp [mop] at h
    | true =>
      simp only [mop] at h
      simp only [memOf] at hm
      repeat' split at h
      all_goals first
        | (cases h; done)
        | (simp only [Option.some.injEq, Prod.mk.injEq] at h; obtain ⟨_, rfl, _⟩ := h)
      all_goals first
        | rfl
        | (simp only [*, List.mem_singleton] at hm; rw [upd_ne _ _ hm]; done)
  | _ =>
    simp only [mop] at h
    simp only [memOf] at hm
    repeat' split at h
    all_goals first
      | (cases h; done)
      | (simp only [Option.some.injEq, Prod.mk.injEq] at h; obtain ⟨_, rfl, _⟩ := h)
    all_goals first
      | rfl
      | (rw [upd_ne _ _ (by omega)]; done)
      | (simp only [*, List.mem_singleton] at hm; rw [upd_ne _ _ hm]; done)
theorem any_ok {G : Array Oper} {cl : List Cls} {q : Option Nat} (h : anyOrder T G cl = some q) : drawOk G cl q = true ∧ lateOk T G q = true := by
  have := List.find?_some h
  simpa using this
structure XOk (P : Program) (T : Tab) (f : Nat) : Prop where
  code : ∀ {k c s s' e}, xCode P T f k c s = some (s', e) → Ev P T k c s e s'
  loop : ∀ {k c s s' e}, xLoop P T f k c s = some (s', e) → EvLoop P T k c s e s'
  scope : ∀ {k b c s s' e}, xScope P T f k b c s = some (s', e) → EvScope P T k b c s e s'
  ops : ∀ {k G l s s'}, xOps P T f k G l s = some s' → EvL P T k G l s s'
  opsD : ∀ {k G l b cl s s' cl'}, xOpsD P T f k G l b cl s = some (s', cl') → (∃ m, cl' = cl ++ m) ∧ EvD P T k G cl' l s s'
  does : ∀ {o t H n v H' n' R}, xDoes P T f o t H n = some (v, H', n', R) → (∀ R', R = some R' → DoesR P T o t H v R' ∧ H' = H ∧ n' = n) ∧ Does P T o t H n v H' n' ∧ (R = none → ∀ b, b ≤ n → ∀ j, j < b → j ∉ memOf t b o.op → H' j = H j)
  run : ∀ {g args H n v H' n'}, xRun P T f g args H n = some (v, H', n') → Run P T g args H n v H' n'
theorem x_ok : ∀ f, XOk P T f
  | 0 => by
    constructor
    · intro k c s s' e h; simp [xCode] at h
    · intro k c s s' e h; simp [xLoop] at h
    · intro k b c s s' e h; simp [xScope] at h
    · intro k G l s s' h; simp [xOps] at h
    · intro k G l b cl s s' cl' h; simp [xOpsD] at h
    · intro o t H n v H' n' R h; simp [xDoes] at h
    · intro g args H n v H' n' h; simp [xRun] at h
  | f + 1 => by
    have ih := x_ok f
    constructor
    · intro k c s s' e h
      cases c with
      | skip => simp only [xCode] at h; cases h; exact .skip
      | label => simp only [xCode] at h; cases h; exact .label
      | exit => simp only [xCode] at h; cases h; exact .exit
      | goto => simp only [xCode] at h; cases h; exact .goto
      | ret => simp only [xCode] at h; cases h; exact .ret
      | refuse => simp [xCode] at h
      | seq a b =>
        simp only [xCode] at h
        split at h
        · rename_i s1 h1; exact .seqN (ih.code h1) (ih.code h)
        · rename_i r hn
          exact .seqX (ih.code h) (fun e' => by subst e'; exact hn _ h)
      | cond c a b =>
        simp only [xCode] at h
        split at h
        · rename_i hc; exact .condT hc (ih.code h)
        · rename_i hc; exact .condF hc (ih.code h)
        · cases h
      | block id a =>
        simp only [xCode] at h
        split at h
        · rename_i s1 j h1
          split at h
          · rename_i e'; subst e'; cases h; exact .blockX (ih.code h1)
          · rename_i e'; cases h; exact .blockN (ih.code h1) (fun e2 => e' (by cases e2; rfl))
        · rename_i hn
          exact .blockN (ih.code h) (fun e' => by subst e'; exact hn _ _ h)
      | loop a => simp only [xCode] at h; exact .loop (ih.loop h)
      | scope a => simp only [xCode] at h; exact .scope (ih.scope h)
      | region id ops d =>
        cases d with
        | false =>
          simp only [xCode] at h
          split at h
          · rename_i s1 h1; cases h; exact .region (ih.ops h1)
          · cases h
        | true =>
          simp only [xCode] at h
          split at h
          case isFalse => cases h
          case isTrue hm =>
            split at h
            case h_2 => cases h
            case h_1 s1 cl h1 =>
              split at h
              case h_2 => cases h
              case h_1 q hq =>
                cases h
                exact .regionD cl q hm (any_ok hq).1 (any_ok hq).2 (ih.opsD h1).2
      | rangeFunc g ps asg bod =>
        simp only [xCode] at h
        split at h
        case h_2 => cases h
        case h_1 g first caps hg =>
          split at h
          case h_2 => cases h
          case h_1 r H' n' h1 =>
            split at h
            · rename_i h2; cases h; exact .rangeN hg (ih.run h1) h2
            · rename_i h2; exact .rangeJ hg (ih.run h1) h2 (ih.code h)
            · cases h
    · intro k c s s' e h
      simp only [xLoop] at h
      split at h
      · rename_i s1 h1; exact .more (ih.code h1) (ih.loop h)
      · rename_i hn; exact .done (ih.code h) (fun e' => by subst e'; exact hn _ h)
    · intro k b c s s' e h
      simp only [xScope] at h
      split at h
      · rename_i s1 l h1
        split at h
        · rename_i rest hl; exact .jump (ih.code h1) hl (ih.scope h)
        · cases h
      · rename_i hn; exact .straight (ih.code h) (fun l e' => by subst e'; exact hn _ _ h)
    · intro k G l s s' h
      cases l with
      | nil => simp only [xOps] at h; cases h; exact .nil
      | cons o l =>
        simp only [xOps] at h
        split at h
        case isFalse => cases h
        case isTrue hd =>
          split at h
          · rename_i hw
            split at h
            · rename_i h1; exact .op hw hd (ih.does h1).2.1 (ih.ops h)
            · cases h
          · rename_i hw; exact .skip hw hd (ih.ops h)
          · cases h
    · intro k G l b cl s s' cl' h
      cases l with
      | nil => simp only [xOpsD] at h; cases h; exact ⟨⟨[], by simp⟩, .nil⟩
      | cons i l =>
        simp only [xOpsD] at h
        split at h
        case h_2 => cases h
        case h_1 o ho =>
          split at h
          case isFalse => cases h
          case isTrue hd =>
            obtain ⟨hd, hi, hbn⟩ := hd
            have at_ : ∀ {x : Cls}, (∃ m, cl' = cl ++ [x] ++ m) → (∃ m, cl' = cl ++ m) ∧ cl'[i]? = some x := by
              rintro x ⟨m, rfl⟩
              exact ⟨⟨[x] ++ m, by simp⟩, by rw [hi]; simp⟩
            split at h
            · rename_i hw
              split at h
              · rename_i v H' n' R h1
                obtain ⟨h2, h3⟩ := ih.opsD h
                obtain ⟨h4, h5⟩ := at_ h2
                obtain ⟨h6, rfl, rfl⟩ := (ih.does h1).1 R rfl
                exact ⟨h4, .rd ho hw hd h6 h5 (fun _ h => h) h3⟩
              · rename_i v H' n' h1
                obtain ⟨h2, h3⟩ := ih.opsD h
                obtain ⟨h4, h5⟩ := at_ h2
                exact ⟨h4, .mem ho hw hd (ih.does h1).2.1 h5 ((ih.does h1).2.2 rfl b hbn) h3⟩
              · cases h
            · rename_i hw
              obtain ⟨h2, h3⟩ := ih.opsD h
              exact ⟨(at_ h2).1, .skip ho hw hd h3⟩
            · cases h
    · intro o t H n v H' n' R h
      simp only [xDoes] at h
      split at h
      · rename_i v' hv
        have hv := vopX_ok hv
        cases h
        exact ⟨fun R' e => (by cases e; exact ⟨.vop hv, rfl, rfl⟩), .vop hv, fun e => (by cases e)⟩
      · split at h
        · rename_i hm
          cases h
          exact ⟨fun R' e => (by cases e), .mop hm, fun _ b hb => mop_keeps hm hb⟩
        · split at h
          case h_2 => cases h
          case h_1 c ho =>
            split at h
            case h_2 => cases h
            case h_1 fv hc =>
              have hmem : ∀ b, memOf t b o.op = List.range b := by
                intro b; rw [ho]; obtain ⟨callee, args, ats⟩ := c; simp only at hc; subst hc; rfl
              have vac : ∀ (H' : Mm) b, b ≤ n → ∀ j, j < b → j ∉ memOf t b o.op → H' j = H j := by
                intro H' b _ j hj hn; rw [hmem] at hn; simp at hn; omega
              split at h
              · rename_i g first caps hf
                have callS : ∀ {v H' n'}, xRun P T f g (first ++ c.args.toList.map (ev t) ++ caps) H n = some (v, H', n') → Does P T o t H n v H' n' := fun h => .callS ho hc hf (ih.run h)
                split at h
                · rename_i hfr
                  split at h
                  · rename_i v1 H1 n1 h1
                    split at h
                    · rename_i hv
                      cases h
                      exact ⟨fun R' e => (by cases e; exact ⟨.callF ho hc hf hfr (ih.run h1) hv, rfl, rfl⟩), .callF ho hc hf hfr (ih.run h1) hv, fun e => (by cases e)⟩
                    · split at h
                      · rename_i h2; cases h; exact ⟨fun R' e => (by cases e), callS h2, fun _ => vac _⟩
                      · cases h
                  · cases h
                · split at h
                  · rename_i v1 ids1 h1
                    cases h
                    split at h1
                    · rename_i args' ids' hv
                      split at h1
                      · rename_i v2 H2 n2 hr
                        split at h1
                        · rename_i hfl
                          cases h1
                          have hvw := (view_e (T := T) 400).2 _ _ _ hv ids1 fun _ h => h
                          exact ⟨fun R' e => (by cases e; exact ⟨.callB ids1 ho hc hf hvw (ih.run hr) (.inr hfl), rfl, rfl⟩), .callB ids1 ho hc hf hvw (ih.run hr) (.inr hfl), fun e => (by cases e)⟩
                        · cases h1
                      · cases h1
                    · cases h1
                  · split at h
                    · rename_i h2; cases h; exact ⟨fun R' e => (by cases e), callS h2, fun _ => vac _⟩
                    · cases h
              · rename_i i hf
                split at h
                case h_2 => cases h
                case h_1 t0 k ps asg bod hi =>
                  split at h
                  case isFalse => cases h
                  case isTrue hps =>
                    split at h
                    case h_2 => cases h
                    case h_1 s1 h1 =>
                      split at h
                      case h_2 => cases h
                      case h_1 hi1 =>
                        split at h
                        case h_2 => cases h
                        case h_1 s2 e h2 =>
                          split at h
                          case h_2 => cases h
                          case h_1 hi2 =>
                            cases h
                            exact ⟨fun R' e => (by cases e), .round ho hc hf hi hps.1 hps.2 (ih.code h1) hi1 (ih.code h2) hi2, fun _ => vac _⟩
              · cases h
    · intro g args H n v H' n' h
      simp only [xRun] at h
      split at h
      case h_2 => cases h
      case h_1 fn hfn =>
        split at h
        case h_2 => cases h
        case h_1 c hb =>
          split at h
          case isFalse => cases h
          case isTrue hc =>
            split at h
            · rename_i s1 h1
              split at h
              · rename_i hr; cases h; exact .mk hfn hb hc.1 hc.2 (ih.code h1) (.inl rfl) hr
              · cases h
            · rename_i s1 h1
              split at h
              · rename_i hr; cases h; exact .mk hfn hb hc.1 hc.2 (ih.code h1) (.inr rfl) hr
              · cases h
            · cases h
def xBool (P : Program) (T : Tab) (F : Nat) (f : FuncId) (b : Bool) : Bool :=
  match xRun P T F f [] (fun _ => none) 0 with
  | some (.sc (.bool x), _, _) => x == b
  | _ => false
theorem RunF.x (F : Nat) {f : FuncId} {b : Bool} (h : xBool P T F f b = true) : RunF P T f [] (B b) := by
  unfold xBool at h
  split at h
  · rename_i x H' n' h1
    simp only [beq_iff_eq] at h
    subst h
    exact ⟨H', n', (x_ok F).run h1⟩
  · cases h
end
end Go.Proofs.YtappiofmkoelnaaGreatDoorW.Ah
end
section
namespace Go.Proofs.YtappiofmkoelnaaGreatDoorW.Ah
set_option linter.unusedVariables false
set_option linter.unusedSimpArgs false
theorem OwnC.take {α : Type} {H : Mem} {ty z : Nat} {e : α → List AV} {o c : Option Nat} {xs : List α} (h : OwnC H ty z e o c xs) (m : Nat) : OwnC H ty z e o c (xs.take m) := by
  cases o with
  | none => have : xs = [] := h; subst this; simp [OwnC]
  | some i =>
    obtain ⟨ys, h1, h2⟩ := h
    have e1 : encs e xs = encs e (xs.take m) ++ encs e (xs.drop m) := by rw [← encs_append, List.take_append_drop]
    refine ⟨encs e (xs.drop m) ++ ys, by rw [h1, e1, List.append_assoc], fun k hk => ?_⟩
    obtain ⟨g1, g2⟩ := h2 k hk
    refine ⟨by rw [List.length_take]; omega, ?_⟩
    rw [e1, List.append_assoc] at g2
    exact g2
def sidx (s : ByteArray) (k : Int) : Option Int := if 0 ≤ k ∧ k < s.size then some ((s.data.toList.getD k.toNat 0).toNat : Int) else none
theorem vop_sidx {T : Tab} {t : Nat → AV} {H : Mem} {s : Nat} {i : TI} (hs : T s = some i) (hk : i.k = .str) {x ix : Operand} {b : ByteArray} {k v : Int} {kk : IntKind} (hx : ev t x = .sc (.string b)) (hi : ev t ix = .sc (.int kk k)) (h : sidx b k = some v) : vop T t H (.index s x ix) = some (.sc (.int .u8 v)) := by
  unfold sidx at h
  split at h
  · next hc =>
    cases h
    simp only [vop, hs, hk, hx, hi]
    rw [if_pos hc]
  · cases h
end Go.Proofs.YtappiofmkoelnaaGreatDoorW.Ah
end
section
namespace Go.Proofs.YtappiofmkoelnaaGreatDoorW.Ah
set_option linter.unusedVariables false
set_option linter.unusedSimpArgs false
section
variable (P : Program) (T : Tab) (k : Nat)
def evY : Nat → List It → (Nat → AV) → Mem → Nat → Cont → Prop
  | 0, st, t, H, n, C => Stk P T k st t H n C
  | _ + 1, [], t, H, n, C => C .normal t H n
  | f + 1, .block _ :: st, t, H, n, C => evY f st t H n C
  | _ + 1, .loop I m :: _, t, H, n, _ => ∃ m', m' < m ∧ I m' t H n
  | f + 1, .ops _ [] :: st, t, H, n, C => evY f st t H n C
  | f + 1, .ops G (o :: l) :: st, t, H, n, C =>
    match wantedA G o t with
    | some true =>
      match vop T t H o.op with
      | some v => if dstOk k o = true then evY f (.ops G l :: st) (putA t o.dst v) H n C else False
      | none => Stk P T k (.ops G (o :: l) :: st) t H n C
    | some false => if dstOk k o = true then evY f (.ops G l :: st) (putA t o.dst (.tup [])) H n C else False
    | none => Stk P T k (.ops G (o :: l) :: st) t H n C
  | f + 1, .opsD _ _ [] :: st, t, H, n, C => evY f st t H n C
  | f + 1, .opsD G cl (i :: l) :: st, t, H, n, C =>
    match G[i]? with
    | none => False
    | some o =>
      match wantedA G o t with
      | some true =>
        match vop T t H o.op with
        | some v => if dstOk k o = true ∧ rdOk cl[i]? (readsOf t o.op) = true then evY f (.opsD G cl l :: st) (putA t o.dst v) H n C else False
        | none => Stk P T k (.opsD G cl (i :: l) :: st) t H n C
      | some false => if dstOk k o = true then evY f (.opsD G cl l :: st) (putA t o.dst (.tup [])) H n C else False
      | none => Stk P T k (.opsD G cl (i :: l) :: st) t H n C
  | f + 1, .code c :: st, t, H, n, C =>
    match c with
    | .skip => evY f st t H n C
    | .label _ => evY f st t H n C
    | .ret => C .ret t H n
    | .region _ ops false => evY f (.ops ops ops.toList :: st) t H n C
    | .seq x y => evY f (.code x :: .code y :: st) t H n C
    | .block id c => evY f (.code c :: .block id :: st) t H n C
    | c => Stk P T k (.code c :: st) t H n C
end
section
variable {P : Program} {T : Tab} {k : Nat}
theorem evY_sound : ∀ {f : Nat} {st : List It} {t : Nat → AV} {H : Mem} {n : Nat} {C : Cont}, evY P T k f st t H n C → Stk P T k st t H n C
  | 0, _, _, _, _, _, h => h
  | _ + 1, [], _, _, _, _, h => h
  | f + 1, .block _ :: st, t, H, n, C, h => by simp only [evY] at h; simp only [Stk]; exact evY_sound h
  | _ + 1, .loop I m :: _, t, H, n, _, h => by simpa only [evY, Stk] using h
  | f + 1, .ops _ [] :: st, t, H, n, C, h => by simp only [evY] at h; exact Stk.on (evY_sound h)
  | f + 1, .ops G (o :: l) :: st, t, H, n, C, h => by
    simp only [evY] at h
    split at h
    · rename_i hw
      split at h
      · rename_i v hv
        split at h
        · rename_i hd
          have := evY_sound h
          simp only [Stk] at this ⊢
          exact EvLQ.op hw hd (.vop hv) this
        · exact h.elim
      · exact h
    · rename_i hw
      split at h
      · rename_i hd
        have := evY_sound h
        simp only [Stk] at this ⊢
        exact EvLQ.skip hw hd this
      · exact h.elim
    · exact h
  | f + 1, .opsD _ _ [] :: st, t, H, n, C, h => by simp only [evY] at h; exact Stk.onD (evY_sound h)
  | f + 1, .opsD G cl (i :: l) :: st, t, H, n, C, h => by
    simp only [evY] at h
    split at h
    · exact h.elim
    · rename_i o ho
      split at h
      · rename_i hw
        split at h
        · rename_i v hv
          split at h
          · rename_i hd
            have := evY_sound h
            simp only [Stk] at this ⊢
            obtain ⟨s', q1, q2⟩ := this
            obtain ⟨R', r1, r2⟩ := rdOk_spec hd.2
            exact ⟨s', .rd ho hw hd.1 (.vop hv) r1 r2 q1, q2⟩
          · exact h.elim
        · exact h
      · rename_i hw
        split at h
        · rename_i hd
          have := evY_sound h
          simp only [Stk] at this ⊢
          obtain ⟨s', q1, q2⟩ := this
          exact ⟨s', .skip ho hw hd q1, q2⟩
        · exact h.elim
      · exact h
  | f + 1, .code c :: st, t, H, n, C, h => by
    simp only [evY] at h
    split at h
    · exact Stk.sk (evY_sound h)
    · exact Stk.lb (evY_sound h)
    · exact Stk.rt h
    · exact Stk.rg (evY_sound h)
    · exact Stk.sq (evY_sound h)
    · exact Stk.bk (evY_sound h)
    · exact h
end
def pureY (T : Tab) (k : Nat) (G : Array Oper) : List Oper → (Nat → AV) → Mem → Option (Nat → AV)
  | [], t, _ => some t
  | o :: l, t, H =>
    match wantedA G o t with
    | some true =>
      match vop T t H o.op with
      | some v => if dstOk k o = true then pureY T k G l (putA t o.dst v) H else none
      | none => none
    | some false => if dstOk k o = true then pureY T k G l (putA t o.dst (.tup [])) H else none
    | none => none
def dstsL (l : List Oper) : List Nat := l.filterMap (·.dst)
def anyOn (D : List Nat) (t : Nat → AV) : Nat → AV := fun i => if i ∈ D then .any else t i
def gdOk (T : Tab) (k : Nat) (G : Array Oper) (l : List Oper) (t : Nat → AV) (H : Mem) (d : Nat) (v : AV) : Prop :=
  match pureY T k G l t H with
  | some t1 => t1 d = v
  | none => False
section
variable {P : Program} {T : Tab} {k : Nat} {st : List It} {t : Nat → AV} {H : Mem} {n : Nat} {C : Cont} {G : Array Oper}
theorem pureY_sound {l2 : List Oper} : ∀ {l : List Oper} {t t1 : Nat → AV}, pureY T k G l t H = some t1 → Stk P T k (.ops G l2 :: st) t1 H n C → Stk P T k (.ops G (l ++ l2) :: st) t H n C
  | [], _, _, h, h2 => by simp only [pureY] at h; cases h; exact h2
  | o :: l, t, t1, h, h2 => by
    simp only [pureY] at h
    split at h
    · rename_i hw
      split at h
      · rename_i v hv
        split at h
        · rename_i hd
          have := pureY_sound h h2
          simp only [Stk, List.cons_append] at this ⊢
          exact EvLQ.op hw hd (.vop hv) this
        · cases h
      · cases h
    · rename_i hw
      split at h
      · rename_i hd
        have := pureY_sound h h2
        simp only [Stk, List.cons_append] at this ⊢
        exact EvLQ.skip hw hd this
      · cases h
    · cases h
theorem putA_frame {o : Oper} {v : AV} {i : Nat} (h : i ∉ dstsL [o]) : putA t o.dst v i = t i := by
  unfold putA
  cases hd : o.dst with
  | none => rfl
  | some d => simp only; rw [upd_ne]; intro e; exact h (by simp [dstsL, hd, e])
theorem pureY_frame : ∀ {l : List Oper} {t t1 : Nat → AV}, pureY T k G l t H = some t1 → ∀ i, i ∉ dstsL l → t1 i = t i
  | [], _, _, h, i, _ => by simp only [pureY] at h; cases h; rfl
  | o :: l, t, t1, h, i, hi => by
    have h1 : i ∉ dstsL [o] := fun e => hi (by simp only [dstsL, List.filterMap_cons, List.filterMap_nil] at e ⊢; cases hd : o.dst <;> simp_all)
    have h2 : i ∉ dstsL l := fun e => hi (by simp only [dstsL, List.filterMap_cons] at e ⊢; cases hd : o.dst <;> simp_all)
    simp only [pureY] at h
    split at h
    · split at h
      · split at h
        · exact (pureY_frame h i h2).trans (putA_frame h1)
        · cases h
      · cases h
    · split at h
      · exact (pureY_frame h i h2).trans (putA_frame h1)
      · cases h
    · cases h
theorem Stk.gd {l : List Oper} (m gd d : Nat) (V : Bool → AV) {w : Bool} (hw : t gd = .sc (.bool w)) (hT : gdOk T k G (l.take m) (upd t gd (.sc (.bool true))) H d (V true)) (hF : gdOk T k G (l.take m) (upd t gd (.sc (.bool false))) H d (V false))
    (h : Stk P T k (.ops G (l.drop m) :: st) (upd (anyOn (dstsL (l.take m)) t) d (V w)) H n C) : Stk P T k (.ops G l :: st) t H n C := by
  have hu : ∀ b, t gd = .sc (.bool b) → upd t gd (.sc (.bool b)) = t := fun b hb => by
    funext i
    by_cases e : i = gd
    · subst e; rw [upd_same, hb]
    · rw [upd_ne _ _ e]
  have key : gdOk T k G (l.take m) t H d (V w) → Stk P T k (.ops G l :: st) t H n C := by
    intro hg
    unfold gdOk at hg
    split at hg
    · rename_i t1 h1
      rw [← List.take_append_drop m l]
      refine pureY_sound h1 ?_
      simp only [Stk] at h ⊢
      refine EvLQ.weak (s1 := ⟨upd (anyOn (dstsL (l.take m)) t) d (V w), H, n⟩) [] ⟨fun i => ?_, fun i => .inr ⟨by simp, .inl rfl⟩, Nat.le_refl _⟩ h
      by_cases e : i = d
      · subst e; left; show upd (anyOn (dstsL (l.take m)) t) i (V w) i = t1 i; rw [upd_same]; exact hg.symm
      · show Vw T H [] (t1 i) (upd (anyOn (dstsL (l.take m)) t) d (V w) i)
        simp only [upd_ne _ _ e, anyOn]
        by_cases hi : i ∈ dstsL (l.take m)
        · rw [if_pos hi]; exact .inr (.inl rfl)
        · rw [if_neg hi]; exact .inl (pureY_frame h1 i hi).symm
    · exact hg.elim
  cases w with
  | true => exact key (by rw [hu true hw] at hT; exact hT)
  | false => exact key (by rw [hu false hw] at hF; exact hF)
end
attribute [simp] evY pureY gdOk dstsL anyOn
end Go.Proofs.YtappiofmkoelnaaGreatDoorW.Ah
end
section
namespace Go.Proofs.YtappiofmkoelnaaGreatDoor.M
open Go.Proofs.YtappiofmkoelnaaGreatDoorW.Ah Go.Proofs.YtappiofmkoelnaaGreatDoor
set_option linter.unusedVariables false
set_option linter.unusedSimpArgs false
set_option maxRecDepth 8000
abbrev c3 : Int → List AV := fun x => [.sc (.int .i64 x)]
instance : Enc c3 1 := ⟨fun _ => rfl⟩
theorem ok3 (x : Int) : (c3 x).all cellOk = true := rfl
theorem fr3 (x : Int) : freeL (c3 x) = true := rfl
structure api_Pos where
  Line : Int
  Col : Int
def c28 (x : api_Pos) : List AV := c3 x.Line ++ (c3 x.Col)
instance : Enc c28 2 := ⟨fun x => by simp only [c28, List.length_append, Enc.len (e := c3)]⟩
theorem ok28 (x : api_Pos) : (c28 x).all cellOk = true := by simp only [c28, List.all_append, ok3] <;> rfl
theorem fr28 (x : api_Pos) : freeL (c28 x) = true := by simp only [c28, freeL_append, fr3] <;> rfl
abbrev c9 : ByteArray → List AV := fun x => [.sc (.string x)]
instance : Enc c9 1 := ⟨fun _ => rfl⟩
theorem ok9 (x : ByteArray) : (c9 x).all cellOk = true := rfl
theorem fr9 (x : ByteArray) : freeL (c9 x) = true := rfl
structure api_Type where
  Kind : Int
  Name : ByteArray
  Parts : (List api_Type)
mutual
def c26 : api_Type → List AV
  | ⟨x0, x1, x2⟩ => c3 x0 ++ (c9 x1 ++ ([.ssl (l26 x2) x2.length false]))
def l26 : List api_Type → List AV
  | [] => []
  | x :: xs => c26 x ++ l26 xs
end
theorem l26_eq : ∀ xs : List api_Type, l26 xs = encs c26 xs
  | [] => by rw [l26, encs_nil]
  | x :: xs => by rw [l26, encs_cons, l26_eq xs]
abbrev c24 : (List api_Type) → List AV := fun x => [.ssl (encs c26 x) x.length false]
instance : Enc c24 1 := ⟨fun _ => rfl⟩
theorem ok24 (x : (List api_Type)) : (c24 x).all cellOk = true := rfl
theorem u26 (x : api_Type) : c26 x = c3 x.Kind ++ (c9 x.Name ++ (c24 x.Parts)) := by
  cases x; simp only [c26, l26_eq]
instance : Enc c26 3 := ⟨fun x => by rw [u26]; simp only [List.length_append, Enc.len (e := c3), Enc.len (e := c9), Enc.len (e := c24)]⟩
theorem len26 (x : api_Type) : (c26 x).length = 3 := Enc.len (e := c26) x
theorem ok26 (x : api_Type) : (c26 x).all cellOk = true := by rw [u26]; simp only [List.all_append, ok3, ok9, ok24]; rfl
mutual
theorem fr26 : ∀ x : api_Type, freeL (c26 x) = true
  | ⟨x0, x1, x2⟩ => by rw [c26]; simp only [freeL_append, fr3, fr9]; simp [freeL, free, fl26 x2]
theorem fl26 : ∀ xs : List api_Type, freeL (l26 xs) = true
  | [] => by rw [l26]; rfl
  | x :: xs => by rw [l26, freeL_append, fr26 x, fl26 xs]; rfl
end
theorem fr24 (x : (List api_Type)) : freeL (c24 x) = true := by simp [freeL, free, freeL_encs fr26]
structure api_Con where
  Name : ByteArray
  Fields : (List api_Type)
def c92 (x : api_Con) : List AV := c9 x.Name ++ (c24 x.Fields)
instance : Enc c92 2 := ⟨fun x => by simp only [c92, List.length_append, Enc.len (e := c9), Enc.len (e := c24)]⟩
theorem len92 (x : api_Con) : (c92 x).length = 2 := Enc.len (e := c92) x
theorem ok92 (x : api_Con) : (c92 x).all cellOk = true := by simp only [c92, List.all_append, ok9, ok24] <;> rfl
theorem fr92 (x : api_Con) : freeL (c92 x) = true := by simp only [c92, freeL_append, fr9, fr24] <;> rfl
abbrev c70 : (List api_Con) → List AV := fun x => [.ssl (encs c92 x) x.length false]
instance : Enc c70 1 := ⟨fun _ => rfl⟩
theorem fr70 (x : (List api_Con)) : freeL (c70 x) = true := by simp [freeL, free, freeL_encs fr92]
structure api_Data where
  At : api_Pos
  Name : ByteArray
  Cons : (List api_Con)
def c72 (x : api_Data) : List AV := c28 x.At ++ (c9 x.Name ++ (c70 x.Cons))
instance : Enc c72 4 := ⟨fun x => by simp only [c72, List.length_append, Enc.len (e := c9), Enc.len (e := c28), Enc.len (e := c70)]⟩
theorem len72 (x : api_Data) : (c72 x).length = 4 := Enc.len (e := c72) x
theorem fr72 (x : api_Data) : freeL (c72 x) = true := by simp only [c72, freeL_append, fr9, fr28, fr70] <;> rfl
abbrev c22 : (List api_Data) → List AV := fun x => [.ssl (encs c72 x) x.length false]
instance : Enc c22 1 := ⟨fun _ => rfl⟩
theorem fr22 (x : (List api_Data)) : freeL (c22 x) = true := by simp [freeL, free, freeL_encs fr72]
structure api_Param where
  Name : ByteArray
  Type_ : api_Type
def c81 (x : api_Param) : List AV := c9 x.Name ++ (c26 x.Type_)
instance : Enc c81 4 := ⟨fun x => by simp only [c81, List.length_append, Enc.len (e := c9), Enc.len (e := c26)]⟩
theorem len81 (x : api_Param) : (c81 x).length = 4 := Enc.len (e := c81) x
theorem ok81 (x : api_Param) : (c81 x).all cellOk = true := by simp only [c81, List.all_append, ok9, ok26] <;> rfl
theorem fr81 (x : api_Param) : freeL (c81 x) = true := by simp only [c81, freeL_append, fr9, fr26] <;> rfl
abbrev c75 : (List api_Param) → List AV := fun x => [.ssl (encs c81 x) x.length false]
instance : Enc c75 1 := ⟨fun _ => rfl⟩
theorem ok75 (x : (List api_Param)) : (c75 x).all cellOk = true := rfl
theorem fr75 (x : (List api_Param)) : freeL (c75 x) = true := by simp [freeL, free, freeL_encs fr81]
abbrev c2 : Int → List AV := fun x => [.sc (.int .i64 x)]
instance : Enc c2 1 := ⟨fun _ => rfl⟩
theorem ok2 (x : Int) : (c2 x).all cellOk = true := rfl
theorem fr2 (x : Int) : freeL (c2 x) = true := rfl
abbrev c5 : Int → List AV := fun x => [.sc (.int .u8 x)]
instance : Enc c5 1 := ⟨fun _ => rfl⟩
theorem fr5 (x : Int) : freeL (c5 x) = true := rfl
abbrev c29 : (List Int) → List AV := fun x => [.ssl (encs c5 x) x.length false]
instance : Enc c29 1 := ⟨fun _ => rfl⟩
theorem ok29 (x : (List Int)) : (c29 x).all cellOk = true := rfl
theorem fr29 (x : (List Int)) : freeL (c29 x) = true := by simp [freeL, free, freeL_encs fr5]
structure api_Pat where
  Kind : Int
  At : api_Pos
  Name : ByteArray
  Num : Int
  Kids : (List api_Pat)
mutual
def c39 : api_Pat → List AV
  | ⟨x0, x1, x2, x3, x4⟩ => c3 x0 ++ (c28 x1 ++ (c9 x2 ++ (c2 x3 ++ ([.ssl (l39 x4) x4.length false]))))
def l39 : List api_Pat → List AV
  | [] => []
  | x :: xs => c39 x ++ l39 xs
end
theorem l39_eq : ∀ xs : List api_Pat, l39 xs = encs c39 xs
  | [] => by rw [l39, encs_nil]
  | x :: xs => by rw [l39, encs_cons, l39_eq xs]
abbrev c37 : (List api_Pat) → List AV := fun x => [.ssl (encs c39 x) x.length false]
instance : Enc c37 1 := ⟨fun _ => rfl⟩
theorem u39 (x : api_Pat) : c39 x = c3 x.Kind ++ (c28 x.At ++ (c9 x.Name ++ (c2 x.Num ++ (c37 x.Kids)))) := by
  cases x; simp only [c39, l39_eq]
instance : Enc c39 6 := ⟨fun x => by rw [u39]; simp only [List.length_append, Enc.len (e := c2), Enc.len (e := c3), Enc.len (e := c9), Enc.len (e := c28), Enc.len (e := c37)]⟩
theorem len39 (x : api_Pat) : (c39 x).length = 6 := Enc.len (e := c39) x
mutual
theorem fr39 : ∀ x : api_Pat, freeL (c39 x) = true
  | ⟨x0, x1, x2, x3, x4⟩ => by rw [c39]; simp only [freeL_append, fr2, fr3, fr9, fr28]; simp [freeL, free, fl39 x4]
theorem fl39 : ∀ xs : List api_Pat, freeL (l39 xs) = true
  | [] => by rw [l39]; rfl
  | x :: xs => by rw [l39, freeL_append, fr39 x, fl39 xs]; rfl
end
mutual
structure api_Expr where
  Kind : Int
  At : api_Pos
  Num : Int
  Bytes : (List Int)
  Name : ByteArray
  Kids : (List api_Expr)
  Arms : (List api_Arm)
structure api_Arm where
  Pat : api_Pat
  Body : api_Expr
end
mutual
def c33 : api_Expr → List AV
  | ⟨x0, x1, x2, x3, x4, x5, x6⟩ => c3 x0 ++ (c28 x1 ++ (c2 x2 ++ (c29 x3 ++ (c9 x4 ++ ([.ssl (l33 x5) x5.length false] ++ ([.ssl (l68 x6) x6.length false]))))))
def c68 : api_Arm → List AV
  | ⟨x0, x1⟩ => c39 x0 ++ (c33 x1)
def l33 : List api_Expr → List AV
  | [] => []
  | x :: xs => c33 x ++ l33 xs
def l68 : List api_Arm → List AV
  | [] => []
  | x :: xs => c68 x ++ l68 xs
end
theorem l33_eq : ∀ xs : List api_Expr, l33 xs = encs c33 xs
  | [] => by rw [l33, encs_nil]
  | x :: xs => by rw [l33, encs_cons, l33_eq xs]
theorem l68_eq : ∀ xs : List api_Arm, l68 xs = encs c68 xs
  | [] => by rw [l68, encs_nil]
  | x :: xs => by rw [l68, encs_cons, l68_eq xs]
abbrev c30 : (List api_Expr) → List AV := fun x => [.ssl (encs c33 x) x.length false]
instance : Enc c30 1 := ⟨fun _ => rfl⟩
theorem ok30 (x : (List api_Expr)) : (c30 x).all cellOk = true := rfl
abbrev c31 : (List api_Arm) → List AV := fun x => [.ssl (encs c68 x) x.length false]
instance : Enc c31 1 := ⟨fun _ => rfl⟩
theorem ok31 (x : (List api_Arm)) : (c31 x).all cellOk = true := rfl
theorem u33 (x : api_Expr) : c33 x = c3 x.Kind ++ (c28 x.At ++ (c2 x.Num ++ (c29 x.Bytes ++ (c9 x.Name ++ (c30 x.Kids ++ (c31 x.Arms)))))) := by
  cases x; simp only [c33, l33_eq, l68_eq]
theorem u68 (x : api_Arm) : c68 x = c39 x.Pat ++ (c33 x.Body) := by
  cases x; simp only [c68, l33_eq, l68_eq]
instance : Enc c33 8 := ⟨fun x => by rw [u33]; simp only [List.length_append, Enc.len (e := c2), Enc.len (e := c3), Enc.len (e := c9), Enc.len (e := c28), Enc.len (e := c29), Enc.len (e := c30), Enc.len (e := c31)]⟩
theorem len33 (x : api_Expr) : (c33 x).length = 8 := Enc.len (e := c33) x
theorem ok33 (x : api_Expr) : (c33 x).all cellOk = true := by rw [u33]; simp only [List.all_append, ok2, ok3, ok9, ok28, ok29, ok30, ok31]; rfl
instance : Enc c68 14 := ⟨fun x => by rw [u68]; simp only [List.length_append, Enc.len (e := c33), Enc.len (e := c39)]⟩
theorem len68 (x : api_Arm) : (c68 x).length = 14 := Enc.len (e := c68) x
mutual
theorem fr33 : ∀ x : api_Expr, freeL (c33 x) = true
  | ⟨x0, x1, x2, x3, x4, x5, x6⟩ => by rw [c33]; simp only [freeL_append, fr2, fr3, fr9, fr28, fr29]; simp [freeL, free, fl33 x5, fl68 x6]
theorem fr68 : ∀ x : api_Arm, freeL (c68 x) = true
  | ⟨x0, x1⟩ => by rw [c68]; simp only [freeL_append, fr39]; simp [freeL, free, fr33 x1]
theorem fl33 : ∀ xs : List api_Expr, freeL (l33 xs) = true
  | [] => by rw [l33]; rfl
  | x :: xs => by rw [l33, freeL_append, fr33 x, fl33 xs]; rfl
theorem fl68 : ∀ xs : List api_Arm, freeL (l68 xs) = true
  | [] => by rw [l68]; rfl
  | x :: xs => by rw [l68, freeL_append, fr68 x, fl68 xs]; rfl
end
structure api_Fun where
  At : api_Pos
  Name : ByteArray
  Params : (List api_Param)
  Result : api_Type
  Body : api_Expr
def c77 (x : api_Fun) : List AV := c28 x.At ++ (c9 x.Name ++ (c75 x.Params ++ (c26 x.Result ++ (c33 x.Body))))
instance : Enc c77 15 := ⟨fun x => by simp only [c77, List.length_append, Enc.len (e := c9), Enc.len (e := c26), Enc.len (e := c28), Enc.len (e := c33), Enc.len (e := c75)]⟩
theorem len77 (x : api_Fun) : (c77 x).length = 15 := Enc.len (e := c77) x
theorem ok77 (x : api_Fun) : (c77 x).all cellOk = true := by simp only [c77, List.all_append, ok9, ok26, ok28, ok33, ok75] <;> rfl
theorem fr77 (x : api_Fun) : freeL (c77 x) = true := by simp only [c77, freeL_append, fr9, fr26, fr28, fr33, fr75] <;> rfl
abbrev c23 : (List api_Fun) → List AV := fun x => [.ssl (encs c77 x) x.length false]
instance : Enc c23 1 := ⟨fun _ => rfl⟩
theorem fr23 (x : (List api_Fun)) : freeL (c23 x) = true := by simp [freeL, free, freeL_encs fr77]
structure api_Hand where
  At : api_Pos
  Name : ByteArray
  Param : api_Param
  Cap : Int
  Body : api_Expr
def c83 (x : api_Hand) : List AV := c28 x.At ++ (c9 x.Name ++ (c81 x.Param ++ (c3 x.Cap ++ (c33 x.Body))))
instance : Enc c83 16 := ⟨fun x => by simp only [c83, List.length_append, Enc.len (e := c3), Enc.len (e := c9), Enc.len (e := c28), Enc.len (e := c33), Enc.len (e := c81)]⟩
theorem len83 (x : api_Hand) : (c83 x).length = 16 := Enc.len (e := c83) x
theorem ok83 (x : api_Hand) : (c83 x).all cellOk = true := by simp only [c83, List.all_append, ok3, ok9, ok28, ok33, ok81] <;> rfl
theorem fr83 (x : api_Hand) : freeL (c83 x) = true := by simp only [c83, freeL_append, fr3, fr9, fr28, fr33, fr81] <;> rfl
abbrev c34 : (List api_Hand) → List AV := fun x => [.ssl (encs c83 x) x.length false]
instance : Enc c34 1 := ⟨fun _ => rfl⟩
theorem fr34 (x : (List api_Hand)) : freeL (c34 x) = true := by simp [freeL, free, freeL_encs fr83]
structure api_Prog where
  Datas : (List api_Data)
  Funs : (List api_Fun)
  Queue : Int
  Timers : Int
  State : api_Type
  Cap : Int
  Init : api_Expr
  Hands : (List api_Hand)
def c36 (x : api_Prog) : List AV := c22 x.Datas ++ (c23 x.Funs ++ (c3 x.Queue ++ (c3 x.Timers ++ (c26 x.State ++ (c3 x.Cap ++ (c33 x.Init ++ (c34 x.Hands)))))))
instance : Enc c36 17 := ⟨fun x => by simp only [c36, List.length_append, Enc.len (e := c3), Enc.len (e := c22), Enc.len (e := c23), Enc.len (e := c26), Enc.len (e := c33), Enc.len (e := c34)]⟩
theorem len36 (x : api_Prog) : (c36 x).length = 17 := Enc.len (e := c36) x
theorem fr36 (x : api_Prog) : freeL (c36 x) = true := by simp only [c36, freeL_append, fr3, fr22, fr23, fr26, fr33, fr34] <;> rfl
abbrev c4 : Bool → List AV := fun x => [.sc (.bool x)]
instance : Enc c4 1 := ⟨fun _ => rfl⟩
theorem ok4 (x : Bool) : (c4 x).all cellOk = true := rfl
theorem fr4 (x : Bool) : freeL (c4 x) = true := rfl
abbrev c87 : Int → List AV := fun x => [.sc (.int .i64 x)]
instance : Enc c87 1 := ⟨fun _ => rfl⟩
abbrev c21 : Int → List AV := fun x => [.sc (.int .i32 x)]
instance : Enc c21 1 := ⟨fun _ => rfl⟩
structure ast_shape where
  named : Bool
  numbered : Bool
  bytes : Bool
  least : Int
  top : Int
  arms : Bool
def c153 (x : ast_shape) : List AV := c4 x.named ++ (c4 x.numbered ++ (c4 x.bytes ++ (c3 x.least ++ (c3 x.top ++ (c4 x.arms)))))
instance : Enc c153 6 := ⟨fun x => by simp only [c153, List.length_append, Enc.len (e := c3), Enc.len (e := c4)]⟩
theorem len153 (x : ast_shape) : (c153 x).length = 6 := Enc.len (e := c153) x
theorem ok153 (x : ast_shape) : (c153 x).all cellOk = true := by simp only [c153, List.all_append, ok3, ok4] <;> rfl
theorem fr153 (x : ast_shape) : freeL (c153 x) = true := by simp only [c153, freeL_append, fr3, fr4] <;> rfl
abbrev c185 : Int → List AV := fun x => [.sc (.int .u64 x)]
instance : Enc c185 1 := ⟨fun _ => rfl⟩
theorem ld_36_0_36 (x : api_Prog) : partOf T.T 36 (c36 x) 0 = some (.agg (c36 x)) := part_all T.t36 rfl (by rw [len36])
theorem ld_36_8_33 (x : api_Prog) : partOf T.T 33 (c36 x) 8 = some (.agg (c33 x.Init)) := by
  rw [c36]
  rw [show 8 = 1 + 7 from rfl, part_skip T.t33 (Enc.len (e := c22) _)]
  rw [show 7 = 1 + 6 from rfl, part_skip T.t33 (Enc.len (e := c23) _)]
  rw [show 6 = 1 + 5 from rfl, part_skip T.t33 (Enc.len (e := c3) _)]
  rw [show 5 = 1 + 4 from rfl, part_skip T.t33 (Enc.len (e := c3) _)]
  rw [show 4 = 3 + 1 from rfl, part_skip T.t33 (Enc.len (e := c26) _)]
  rw [show 1 = 1 + 0 from rfl, part_skip T.t33 (Enc.len (e := c3) _)]
  rw [part_head T.t33 (by decide) (by rw [Enc.len (e := c33)]; decide)]
  exact part_all T.t33 rfl (by rw [len33])
theorem ld_36_4_26 (x : api_Prog) : partOf T.T 26 (c36 x) 4 = some (.agg (c26 x.State)) := by
  rw [c36]
  rw [show 4 = 1 + 3 from rfl, part_skip T.t26 (Enc.len (e := c22) _)]
  rw [show 3 = 1 + 2 from rfl, part_skip T.t26 (Enc.len (e := c23) _)]
  rw [show 2 = 1 + 1 from rfl, part_skip T.t26 (Enc.len (e := c3) _)]
  rw [show 1 = 1 + 0 from rfl, part_skip T.t26 (Enc.len (e := c3) _)]
  rw [part_head T.t26 (by decide) (by rw [Enc.len (e := c26)]; decide)]
  exact part_all T.t26 rfl (by rw [len26])
theorem ld_26_1_9 (x : api_Type) : partOf T.T 9 (c26 x) 1 = some (.sc (.string x.Name)) := by
  rw [u26]
  rw [show 1 = 1 + 0 from rfl, part_skip T.t9 (Enc.len (e := c3) _)]
  rw [part_head T.t9 (by decide) (by rw [Enc.len (e := c9)]; decide)]
  rfl
theorem ld_26_2_24 (x : api_Type) : partOf T.T 24 (c26 x) 2 = some (.ssl (encs c26 x.Parts) x.Parts.length false) := by
  rw [u26]
  rw [show 2 = 1 + 1 from rfl, part_skip T.t24 (Enc.len (e := c3) _)]
  rw [show 1 = 1 + 0 from rfl, part_skip T.t24 (Enc.len (e := c9) _)]
  rfl
theorem pd26 (l : List AV) (o : Nat) : partOf T.T 26 (l.drop o) 0 = partOf T.T 26 l o := partOf_drop T.t26 (by decide) l o
theorem ld_26_0_26 (x : api_Type) : partOf T.T 26 (c26 x) 0 = some (.agg (c26 x)) := part_all T.t26 rfl (by rw [len26])
theorem ld_33_4_29 (x : api_Expr) : partOf T.T 29 (c33 x) 4 = some (.ssl (encs c5 x.Bytes) x.Bytes.length false) := by
  rw [u33]
  rw [show 4 = 1 + 3 from rfl, part_skip T.t29 (Enc.len (e := c3) _)]
  rw [show 3 = 2 + 1 from rfl, part_skip T.t29 (Enc.len (e := c28) _)]
  rw [show 1 = 1 + 0 from rfl, part_skip T.t29 (Enc.len (e := c2) _)]
  rw [part_head T.t29 (by decide) (by rw [Enc.len (e := c29)]; decide)]
  rfl
theorem ld_33_5_9 (x : api_Expr) : partOf T.T 9 (c33 x) 5 = some (.sc (.string x.Name)) := by
  rw [u33]
  rw [show 5 = 1 + 4 from rfl, part_skip T.t9 (Enc.len (e := c3) _)]
  rw [show 4 = 2 + 2 from rfl, part_skip T.t9 (Enc.len (e := c28) _)]
  rw [show 2 = 1 + 1 from rfl, part_skip T.t9 (Enc.len (e := c2) _)]
  rw [show 1 = 1 + 0 from rfl, part_skip T.t9 (Enc.len (e := c29) _)]
  rw [part_head T.t9 (by decide) (by rw [Enc.len (e := c9)]; decide)]
  rfl
theorem ld_33_6_30 (x : api_Expr) : partOf T.T 30 (c33 x) 6 = some (.ssl (encs c33 x.Kids) x.Kids.length false) := by
  rw [u33]
  rw [show 6 = 1 + 5 from rfl, part_skip T.t30 (Enc.len (e := c3) _)]
  rw [show 5 = 2 + 3 from rfl, part_skip T.t30 (Enc.len (e := c28) _)]
  rw [show 3 = 1 + 2 from rfl, part_skip T.t30 (Enc.len (e := c2) _)]
  rw [show 2 = 1 + 1 from rfl, part_skip T.t30 (Enc.len (e := c29) _)]
  rw [show 1 = 1 + 0 from rfl, part_skip T.t30 (Enc.len (e := c9) _)]
  rw [part_head T.t30 (by decide) (by rw [Enc.len (e := c30)]; decide)]
  rfl
theorem pd33 (l : List AV) (o : Nat) : partOf T.T 33 (l.drop o) 0 = partOf T.T 33 l o := partOf_drop T.t33 (by decide) l o
theorem ld_33_0_33 (x : api_Expr) : partOf T.T 33 (c33 x) 0 = some (.agg (c33 x)) := part_all T.t33 rfl (by rw [len33])
theorem ld_33_7_31 (x : api_Expr) : partOf T.T 31 (c33 x) 7 = some (.ssl (encs c68 x.Arms) x.Arms.length false) := by
  rw [u33]
  rw [show 7 = 1 + 6 from rfl, part_skip T.t31 (Enc.len (e := c3) _)]
  rw [show 6 = 2 + 4 from rfl, part_skip T.t31 (Enc.len (e := c28) _)]
  rw [show 4 = 1 + 3 from rfl, part_skip T.t31 (Enc.len (e := c2) _)]
  rw [show 3 = 1 + 2 from rfl, part_skip T.t31 (Enc.len (e := c29) _)]
  rw [show 2 = 1 + 1 from rfl, part_skip T.t31 (Enc.len (e := c9) _)]
  rw [show 1 = 1 + 0 from rfl, part_skip T.t31 (Enc.len (e := c30) _)]
  rfl
theorem ld_68_6_33 (x : api_Arm) : partOf T.T 33 (c68 x) 6 = some (.agg (c33 x.Body)) := by
  rw [u68]
  rw [show 6 = 6 + 0 from rfl, part_skip T.t33 (Enc.len (e := c39) _)]
  exact part_all T.t33 rfl (by rw [len33])
theorem pd39 (l : List AV) (o : Nat) : partOf T.T 39 (l.drop o) 0 = partOf T.T 39 l o := partOf_drop T.t39 (by decide) l o
theorem ld_68_0_39 (x : api_Arm) : partOf T.T 39 (c68 x) 0 = some (.agg (c39 x.Pat)) := by
  rw [u68]
  rw [part_head T.t39 (by decide) (by rw [Enc.len (e := c39)]; decide)]
  exact part_all T.t39 rfl (by rw [len39])
theorem ld_39_3_9 (x : api_Pat) : partOf T.T 9 (c39 x) 3 = some (.sc (.string x.Name)) := by
  rw [u39]
  rw [show 3 = 1 + 2 from rfl, part_skip T.t9 (Enc.len (e := c3) _)]
  rw [show 2 = 2 + 0 from rfl, part_skip T.t9 (Enc.len (e := c28) _)]
  rw [part_head T.t9 (by decide) (by rw [Enc.len (e := c9)]; decide)]
  rfl
theorem ld_39_5_37 (x : api_Pat) : partOf T.T 37 (c39 x) 5 = some (.ssl (encs c39 x.Kids) x.Kids.length false) := by
  rw [u39]
  rw [show 5 = 1 + 4 from rfl, part_skip T.t37 (Enc.len (e := c3) _)]
  rw [show 4 = 2 + 2 from rfl, part_skip T.t37 (Enc.len (e := c28) _)]
  rw [show 2 = 1 + 1 from rfl, part_skip T.t37 (Enc.len (e := c9) _)]
  rw [show 1 = 1 + 0 from rfl, part_skip T.t37 (Enc.len (e := c2) _)]
  rfl
theorem ld_39_0_39 (x : api_Pat) : partOf T.T 39 (c39 x) 0 = some (.agg (c39 x)) := part_all T.t39 rfl (by rw [len39])
theorem ld_36_0_22 (x : api_Prog) : partOf T.T 22 (c36 x) 0 = some (.ssl (encs c72 x.Datas) x.Datas.length false) := by
  rw [c36]
  rw [part_head T.t22 (by decide) (by rw [Enc.len (e := c22)]; decide)]
  rfl
theorem pd9 (l : List AV) (o : Nat) : partOf T.T 9 (l.drop o) 0 = partOf T.T 9 l o := partOf_drop T.t9 (by decide) l o
theorem ld_72_2_9 (x : api_Data) : partOf T.T 9 (c72 x) 2 = some (.sc (.string x.Name)) := by
  rw [c72]
  rw [show 2 = 2 + 0 from rfl, part_skip T.t9 (Enc.len (e := c28) _)]
  rw [part_head T.t9 (by decide) (by rw [Enc.len (e := c9)]; decide)]
  rfl
theorem pd70 (l : List AV) (o : Nat) : partOf T.T 70 (l.drop o) 0 = partOf T.T 70 l o := partOf_drop T.t70 (by decide) l o
theorem ld_72_3_70 (x : api_Data) : partOf T.T 70 (c72 x) 3 = some (.ssl (encs c92 x.Cons) x.Cons.length false) := by
  rw [c72]
  rw [show 3 = 2 + 1 from rfl, part_skip T.t70 (Enc.len (e := c28) _)]
  rw [show 1 = 1 + 0 from rfl, part_skip T.t70 (Enc.len (e := c9) _)]
  rfl
theorem ld_92_0_9 (x : api_Con) : partOf T.T 9 (c92 x) 0 = some (.sc (.string x.Name)) := by
  rw [c92]
  rw [part_head T.t9 (by decide) (by rw [Enc.len (e := c9)]; decide)]
  rfl
theorem pd24 (l : List AV) (o : Nat) : partOf T.T 24 (l.drop o) 0 = partOf T.T 24 l o := partOf_drop T.t24 (by decide) l o
theorem ld_92_1_24 (x : api_Con) : partOf T.T 24 (c92 x) 1 = some (.ssl (encs c26 x.Fields) x.Fields.length false) := by
  rw [c92]
  rw [show 1 = 1 + 0 from rfl, part_skip T.t24 (Enc.len (e := c9) _)]
  rfl
theorem st_26_1_9 (x : api_Type) (v : ByteArray) : splice (c26 x) 1 ([.sc (.string v)]) = c26 ({ x with Name := v }) := by
  rw [u26, u26]
  all_goals rw [show 1 = 1 + 0 from rfl, splice_skip (Enc.len (e := c3) _)]
  all_goals congr 1
  all_goals rw [splice_head (by simp [Enc.len (e := c9), len_one])]
  all_goals congr 1
  all_goals rfl
theorem st_26_2_24 (x : api_Type) (v : (List api_Type)) : splice (c26 x) 2 ([.ssl (encs c26 v) v.length false]) = c26 ({ x with Parts := v }) := by
  rw [u26, u26]
  all_goals rw [show 2 = 1 + 1 from rfl, splice_skip (Enc.len (e := c3) _)]
  all_goals congr 1
  all_goals rw [show 1 = 1 + 0 from rfl, splice_skip (Enc.len (e := c9) _)]
  all_goals congr 1
  all_goals rfl
theorem ld_36_1_23 (x : api_Prog) : partOf T.T 23 (c36 x) 1 = some (.ssl (encs c77 x.Funs) x.Funs.length false) := by
  rw [c36]
  rw [show 1 = 1 + 0 from rfl, part_skip T.t23 (Enc.len (e := c22) _)]
  rw [part_head T.t23 (by decide) (by rw [Enc.len (e := c23)]; decide)]
  rfl
theorem pd77 (l : List AV) (o : Nat) : partOf T.T 77 (l.drop o) 0 = partOf T.T 77 l o := partOf_drop T.t77 (by decide) l o
theorem ld_77_0_77 (x : api_Fun) : partOf T.T 77 (c77 x) 0 = some (.agg (c77 x)) := part_all T.t77 rfl (by rw [len77])
theorem st_77_0_77 (x : api_Fun) (v : api_Fun) : splice (c77 x) 0 (c77 v) = c77 v := by
  exact splice_all (by simp only [Enc.len (e := c77)])
theorem ld_77_7_33 (x : api_Fun) : partOf T.T 33 (c77 x) 7 = some (.agg (c33 x.Body)) := by
  rw [c77]
  rw [show 7 = 2 + 5 from rfl, part_skip T.t33 (Enc.len (e := c28) _)]
  rw [show 5 = 1 + 4 from rfl, part_skip T.t33 (Enc.len (e := c9) _)]
  rw [show 4 = 1 + 3 from rfl, part_skip T.t33 (Enc.len (e := c75) _)]
  rw [show 3 = 3 + 0 from rfl, part_skip T.t33 (Enc.len (e := c26) _)]
  exact part_all T.t33 rfl (by rw [len33])
theorem ld_77_4_26 (x : api_Fun) : partOf T.T 26 (c77 x) 4 = some (.agg (c26 x.Result)) := by
  rw [c77]
  rw [show 4 = 2 + 2 from rfl, part_skip T.t26 (Enc.len (e := c28) _)]
  rw [show 2 = 1 + 1 from rfl, part_skip T.t26 (Enc.len (e := c9) _)]
  rw [show 1 = 1 + 0 from rfl, part_skip T.t26 (Enc.len (e := c75) _)]
  rw [part_head T.t26 (by decide) (by rw [Enc.len (e := c26)]; decide)]
  exact part_all T.t26 rfl (by rw [len26])
theorem ld_77_2_9 (x : api_Fun) : partOf T.T 9 (c77 x) 2 = some (.sc (.string x.Name)) := by
  rw [c77]
  rw [show 2 = 2 + 0 from rfl, part_skip T.t9 (Enc.len (e := c28) _)]
  rw [part_head T.t9 (by decide) (by rw [Enc.len (e := c9)]; decide)]
  rfl
theorem ld_77_3_75 (x : api_Fun) : partOf T.T 75 (c77 x) 3 = some (.ssl (encs c81 x.Params) x.Params.length false) := by
  rw [c77]
  rw [show 3 = 2 + 1 from rfl, part_skip T.t75 (Enc.len (e := c28) _)]
  rw [show 1 = 1 + 0 from rfl, part_skip T.t75 (Enc.len (e := c9) _)]
  rw [part_head T.t75 (by decide) (by rw [Enc.len (e := c75)]; decide)]
  rfl
theorem ld_81_1_26 (x : api_Param) : partOf T.T 26 (c81 x) 1 = some (.agg (c26 x.Type_)) := by
  rw [c81]
  rw [show 1 = 1 + 0 from rfl, part_skip T.t26 (Enc.len (e := c9) _)]
  exact part_all T.t26 rfl (by rw [len26])
theorem ld_81_0_9 (x : api_Param) : partOf T.T 9 (c81 x) 0 = some (.sc (.string x.Name)) := by
  rw [c81]
  rw [part_head T.t9 (by decide) (by rw [Enc.len (e := c9)]; decide)]
  rfl
theorem ld_36_16_34 (x : api_Prog) : partOf T.T 34 (c36 x) 16 = some (.ssl (encs c83 x.Hands) x.Hands.length false) := by
  rw [c36]
  rw [show 16 = 1 + 15 from rfl, part_skip T.t34 (Enc.len (e := c22) _)]
  rw [show 15 = 1 + 14 from rfl, part_skip T.t34 (Enc.len (e := c23) _)]
  rw [show 14 = 1 + 13 from rfl, part_skip T.t34 (Enc.len (e := c3) _)]
  rw [show 13 = 1 + 12 from rfl, part_skip T.t34 (Enc.len (e := c3) _)]
  rw [show 12 = 3 + 9 from rfl, part_skip T.t34 (Enc.len (e := c26) _)]
  rw [show 9 = 1 + 8 from rfl, part_skip T.t34 (Enc.len (e := c3) _)]
  rw [show 8 = 8 + 0 from rfl, part_skip T.t34 (Enc.len (e := c33) _)]
  rfl
theorem pd83 (l : List AV) (o : Nat) : partOf T.T 83 (l.drop o) 0 = partOf T.T 83 l o := partOf_drop T.t83 (by decide) l o
theorem ld_83_0_83 (x : api_Hand) : partOf T.T 83 (c83 x) 0 = some (.agg (c83 x)) := part_all T.t83 rfl (by rw [len83])
theorem st_83_0_83 (x : api_Hand) (v : api_Hand) : splice (c83 x) 0 (c83 v) = c83 v := by
  exact splice_all (by simp only [Enc.len (e := c83)])
theorem ld_83_8_33 (x : api_Hand) : partOf T.T 33 (c83 x) 8 = some (.agg (c33 x.Body)) := by
  rw [c83]
  rw [show 8 = 2 + 6 from rfl, part_skip T.t33 (Enc.len (e := c28) _)]
  rw [show 6 = 1 + 5 from rfl, part_skip T.t33 (Enc.len (e := c9) _)]
  rw [show 5 = 4 + 1 from rfl, part_skip T.t33 (Enc.len (e := c81) _)]
  rw [show 1 = 1 + 0 from rfl, part_skip T.t33 (Enc.len (e := c3) _)]
  exact part_all T.t33 rfl (by rw [len33])
theorem ld_83_4_26 (x : api_Hand) : partOf T.T 26 (c83 x) 4 = some (.agg (c26 x.Param.Type_)) := by
  rw [c83]
  rw [show 4 = 2 + 2 from rfl, part_skip T.t26 (Enc.len (e := c28) _)]
  rw [show 2 = 1 + 1 from rfl, part_skip T.t26 (Enc.len (e := c9) _)]
  rw [part_head T.t26 (by decide) (by rw [Enc.len (e := c81)]; decide)]
  rw [c81]
  rw [show 1 = 1 + 0 from rfl, part_skip T.t26 (Enc.len (e := c9) _)]
  exact part_all T.t26 rfl (by rw [len26])
theorem ld_83_2_9 (x : api_Hand) : partOf T.T 9 (c83 x) 2 = some (.sc (.string x.Name)) := by
  rw [c83]
  rw [show 2 = 2 + 0 from rfl, part_skip T.t9 (Enc.len (e := c28) _)]
  rw [part_head T.t9 (by decide) (by rw [Enc.len (e := c9)]; decide)]
  rfl
theorem ld_83_3_9 (x : api_Hand) : partOf T.T 9 (c83 x) 3 = some (.sc (.string x.Param.Name)) := by
  rw [c83]
  rw [show 3 = 2 + 1 from rfl, part_skip T.t9 (Enc.len (e := c28) _)]
  rw [show 1 = 1 + 0 from rfl, part_skip T.t9 (Enc.len (e := c9) _)]
  rw [part_head T.t9 (by decide) (by rw [Enc.len (e := c81)]; decide)]
  rw [c81]
  rw [part_head T.t9 (by decide) (by rw [Enc.len (e := c9)]; decide)]
  rfl
theorem ld_36_2_3 (x : api_Prog) : partOf T.T 3 (c36 x) 2 = some (.sc (.int .i64 x.Queue)) := by
  rw [c36]
  rw [show 2 = 1 + 1 from rfl, part_skip T.t3 (Enc.len (e := c22) _)]
  rw [show 1 = 1 + 0 from rfl, part_skip T.t3 (Enc.len (e := c23) _)]
  rw [part_head T.t3 (by decide) (by rw [Enc.len (e := c3)]; decide)]
  rfl
theorem ld_36_3_3 (x : api_Prog) : partOf T.T 3 (c36 x) 3 = some (.sc (.int .i64 x.Timers)) := by
  rw [c36]
  rw [show 3 = 1 + 2 from rfl, part_skip T.t3 (Enc.len (e := c22) _)]
  rw [show 2 = 1 + 1 from rfl, part_skip T.t3 (Enc.len (e := c23) _)]
  rw [show 1 = 1 + 0 from rfl, part_skip T.t3 (Enc.len (e := c3) _)]
  rw [part_head T.t3 (by decide) (by rw [Enc.len (e := c3)]; decide)]
  rfl
theorem ld_36_7_3 (x : api_Prog) : partOf T.T 3 (c36 x) 7 = some (.sc (.int .i64 x.Cap)) := by
  rw [c36]
  rw [show 7 = 1 + 6 from rfl, part_skip T.t3 (Enc.len (e := c22) _)]
  rw [show 6 = 1 + 5 from rfl, part_skip T.t3 (Enc.len (e := c23) _)]
  rw [show 5 = 1 + 4 from rfl, part_skip T.t3 (Enc.len (e := c3) _)]
  rw [show 4 = 1 + 3 from rfl, part_skip T.t3 (Enc.len (e := c3) _)]
  rw [show 3 = 3 + 0 from rfl, part_skip T.t3 (Enc.len (e := c26) _)]
  rw [part_head T.t3 (by decide) (by rw [Enc.len (e := c3)]; decide)]
  rfl
theorem ld_26_0_3 (x : api_Type) : partOf T.T 3 (c26 x) 0 = some (.sc (.int .i64 x.Kind)) := by
  rw [u26]
  rw [part_head T.t3 (by decide) (by rw [Enc.len (e := c3)]; decide)]
  rfl
theorem ldF47 (x : AV) : partOf T.T 47 [x] 0 = some x := rfl
theorem ld_33_0_3 (x : api_Expr) : partOf T.T 3 (c33 x) 0 = some (.sc (.int .i64 x.Kind)) := by
  rw [u33]
  rw [part_head T.t3 (by decide) (by rw [Enc.len (e := c3)]; decide)]
  rfl
theorem st_153_1_4 (x : ast_shape) (v : Bool) : splice (c153 x) 1 ([.sc (.bool v)]) = c153 ({ x with numbered := v }) := by
  rw [c153, c153]
  all_goals rw [show 1 = 1 + 0 from rfl, splice_skip (Enc.len (e := c4) _)]
  all_goals congr 1
  all_goals rw [splice_head (by simp [Enc.len (e := c4), len_one])]
  all_goals congr 1
  all_goals rfl
theorem ld_33_3_2 (x : api_Expr) : partOf T.T 2 (c33 x) 3 = some (.sc (.int .i64 x.Num)) := by
  rw [u33]
  rw [show 3 = 1 + 2 from rfl, part_skip T.t2 (Enc.len (e := c3) _)]
  rw [show 2 = 2 + 0 from rfl, part_skip T.t2 (Enc.len (e := c28) _)]
  rw [part_head T.t2 (by decide) (by rw [Enc.len (e := c2)]; decide)]
  rfl
theorem st_153_0_153 (x : ast_shape) (v : ast_shape) : splice (c153 x) 0 (c153 v) = c153 v := by
  exact splice_all (by simp only [Enc.len (e := c153)])
theorem ld_153_0_153 (x : ast_shape) : partOf T.T 153 (c153 x) 0 = some (.agg (c153 x)) := part_all T.t153 rfl (by rw [len153])
theorem st_153_2_4 (x : ast_shape) (v : Bool) : splice (c153 x) 2 ([.sc (.bool v)]) = c153 ({ x with bytes := v }) := by
  rw [c153, c153]
  all_goals rw [show 2 = 1 + 1 from rfl, splice_skip (Enc.len (e := c4) _)]
  all_goals congr 1
  all_goals rw [show 1 = 1 + 0 from rfl, splice_skip (Enc.len (e := c4) _)]
  all_goals congr 1
  all_goals rw [splice_head (by simp [Enc.len (e := c4), len_one])]
  all_goals congr 1
  all_goals rfl
theorem st_153_0_4 (x : ast_shape) (v : Bool) : splice (c153 x) 0 ([.sc (.bool v)]) = c153 ({ x with named := v }) := by
  rw [c153, c153]
  all_goals rw [splice_head (by simp [Enc.len (e := c4), len_one])]
  all_goals congr 1
  all_goals rfl
theorem st_153_4_3 (x : ast_shape) (v : Int) : splice (c153 x) 4 ([.sc (.int .i64 v)]) = c153 ({ x with top := v }) := by
  rw [c153, c153]
  all_goals rw [show 4 = 1 + 3 from rfl, splice_skip (Enc.len (e := c4) _)]
  all_goals congr 1
  all_goals rw [show 3 = 1 + 2 from rfl, splice_skip (Enc.len (e := c4) _)]
  all_goals congr 1
  all_goals rw [show 2 = 1 + 1 from rfl, splice_skip (Enc.len (e := c4) _)]
  all_goals congr 1
  all_goals rw [show 1 = 1 + 0 from rfl, splice_skip (Enc.len (e := c3) _)]
  all_goals congr 1
  all_goals rw [splice_head (by simp [Enc.len (e := c3), len_one])]
  all_goals congr 1
  all_goals rfl
theorem st_153_3_3 (x : ast_shape) (v : Int) : splice (c153 x) 3 ([.sc (.int .i64 v)]) = c153 ({ x with least := v }) := by
  rw [c153, c153]
  all_goals rw [show 3 = 1 + 2 from rfl, splice_skip (Enc.len (e := c4) _)]
  all_goals congr 1
  all_goals rw [show 2 = 1 + 1 from rfl, splice_skip (Enc.len (e := c4) _)]
  all_goals congr 1
  all_goals rw [show 1 = 1 + 0 from rfl, splice_skip (Enc.len (e := c4) _)]
  all_goals congr 1
  all_goals rw [splice_head (by simp [Enc.len (e := c3), len_one])]
  all_goals congr 1
  all_goals rfl
theorem st_153_5_4 (x : ast_shape) (v : Bool) : splice (c153 x) 5 ([.sc (.bool v)]) = c153 ({ x with arms := v }) := by
  rw [c153, c153]
  all_goals rw [show 5 = 1 + 4 from rfl, splice_skip (Enc.len (e := c4) _)]
  all_goals congr 1
  all_goals rw [show 4 = 1 + 3 from rfl, splice_skip (Enc.len (e := c4) _)]
  all_goals congr 1
  all_goals rw [show 3 = 1 + 2 from rfl, splice_skip (Enc.len (e := c4) _)]
  all_goals congr 1
  all_goals rw [show 2 = 1 + 1 from rfl, splice_skip (Enc.len (e := c3) _)]
  all_goals congr 1
  all_goals rw [show 1 = 1 + 0 from rfl, splice_skip (Enc.len (e := c3) _)]
  all_goals congr 1
  all_goals rfl
theorem ld_153_0_4 (x : ast_shape) : partOf T.T 4 (c153 x) 0 = some (.sc (.bool x.named)) := by
  rw [c153]
  rw [part_head T.t4 (by decide) (by rw [Enc.len (e := c4)]; decide)]
  rfl
theorem ld_153_1_4 (x : ast_shape) : partOf T.T 4 (c153 x) 1 = some (.sc (.bool x.numbered)) := by
  rw [c153]
  rw [show 1 = 1 + 0 from rfl, part_skip T.t4 (Enc.len (e := c4) _)]
  rw [part_head T.t4 (by decide) (by rw [Enc.len (e := c4)]; decide)]
  rfl
theorem ld_153_2_4 (x : ast_shape) : partOf T.T 4 (c153 x) 2 = some (.sc (.bool x.bytes)) := by
  rw [c153]
  rw [show 2 = 1 + 1 from rfl, part_skip T.t4 (Enc.len (e := c4) _)]
  rw [show 1 = 1 + 0 from rfl, part_skip T.t4 (Enc.len (e := c4) _)]
  rw [part_head T.t4 (by decide) (by rw [Enc.len (e := c4)]; decide)]
  rfl
theorem ld_153_5_4 (x : ast_shape) : partOf T.T 4 (c153 x) 5 = some (.sc (.bool x.arms)) := by
  rw [c153]
  rw [show 5 = 1 + 4 from rfl, part_skip T.t4 (Enc.len (e := c4) _)]
  rw [show 4 = 1 + 3 from rfl, part_skip T.t4 (Enc.len (e := c4) _)]
  rw [show 3 = 1 + 2 from rfl, part_skip T.t4 (Enc.len (e := c4) _)]
  rw [show 2 = 1 + 1 from rfl, part_skip T.t4 (Enc.len (e := c3) _)]
  rw [show 1 = 1 + 0 from rfl, part_skip T.t4 (Enc.len (e := c3) _)]
  rfl
theorem pd68 (l : List AV) (o : Nat) : partOf T.T 68 (l.drop o) 0 = partOf T.T 68 l o := partOf_drop T.t68 (by decide) l o
theorem ld_68_0_68 (x : api_Arm) : partOf T.T 68 (c68 x) 0 = some (.agg (c68 x)) := part_all T.t68 rfl (by rw [len68])
theorem ldF157 (x : AV) : partOf T.T 157 [x] 0 = some x := rfl
theorem ld_153_3_3 (x : ast_shape) : partOf T.T 3 (c153 x) 3 = some (.sc (.int .i64 x.least)) := by
  rw [c153]
  rw [show 3 = 1 + 2 from rfl, part_skip T.t3 (Enc.len (e := c4) _)]
  rw [show 2 = 1 + 1 from rfl, part_skip T.t3 (Enc.len (e := c4) _)]
  rw [show 1 = 1 + 0 from rfl, part_skip T.t3 (Enc.len (e := c4) _)]
  rw [part_head T.t3 (by decide) (by rw [Enc.len (e := c3)]; decide)]
  rfl
theorem ld_153_4_3 (x : ast_shape) : partOf T.T 3 (c153 x) 4 = some (.sc (.int .i64 x.top)) := by
  rw [c153]
  rw [show 4 = 1 + 3 from rfl, part_skip T.t3 (Enc.len (e := c4) _)]
  rw [show 3 = 1 + 2 from rfl, part_skip T.t3 (Enc.len (e := c4) _)]
  rw [show 2 = 1 + 1 from rfl, part_skip T.t3 (Enc.len (e := c4) _)]
  rw [show 1 = 1 + 0 from rfl, part_skip T.t3 (Enc.len (e := c3) _)]
  rw [part_head T.t3 (by decide) (by rw [Enc.len (e := c3)]; decide)]
  rfl
theorem ldF45 (x : AV) : partOf T.T 45 [x] 0 = some x := rfl
theorem ld_39_4_2 (x : api_Pat) : partOf T.T 2 (c39 x) 4 = some (.sc (.int .i64 x.Num)) := by
  rw [u39]
  rw [show 4 = 1 + 3 from rfl, part_skip T.t2 (Enc.len (e := c3) _)]
  rw [show 3 = 2 + 1 from rfl, part_skip T.t2 (Enc.len (e := c28) _)]
  rw [show 1 = 1 + 0 from rfl, part_skip T.t2 (Enc.len (e := c9) _)]
  rw [part_head T.t2 (by decide) (by rw [Enc.len (e := c2)]; decide)]
  rfl
theorem ld_39_0_3 (x : api_Pat) : partOf T.T 3 (c39 x) 0 = some (.sc (.int .i64 x.Kind)) := by
  rw [u39]
  rw [part_head T.t3 (by decide) (by rw [Enc.len (e := c3)]; decide)]
  rfl
theorem ldF46 (x : AV) : partOf T.T 46 [x] 0 = some x := rfl
theorem pd72 (l : List AV) (o : Nat) : partOf T.T 72 (l.drop o) 0 = partOf T.T 72 l o := partOf_drop T.t72 (by decide) l o
theorem ld_72_0_72 (x : api_Data) : partOf T.T 72 (c72 x) 0 = some (.agg (c72 x)) := part_all T.t72 rfl (by rw [len72])
theorem ldF73 (x : AV) : partOf T.T 73 [x] 0 = some x := rfl
theorem pd92 (l : List AV) (o : Nat) : partOf T.T 92 (l.drop o) 0 = partOf T.T 92 l o := partOf_drop T.t92 (by decide) l o
theorem ld_92_0_92 (x : api_Con) : partOf T.T 92 (c92 x) 0 = some (.agg (c92 x)) := part_all T.t92 rfl (by rw [len92])
theorem ldF105 (x : AV) : partOf T.T 105 [x] 0 = some x := rfl
theorem ldF78 (x : AV) : partOf T.T 78 [x] 0 = some x := rfl
theorem pd81 (l : List AV) (o : Nat) : partOf T.T 81 (l.drop o) 0 = partOf T.T 81 l o := partOf_drop T.t81 (by decide) l o
theorem ld_81_0_81 (x : api_Param) : partOf T.T 81 (c81 x) 0 = some (.agg (c81 x)) := part_all T.t81 rfl (by rw [len81])
theorem ldF86 (x : AV) : partOf T.T 86 [x] 0 = some x := rfl
theorem ldF84 (x : AV) : partOf T.T 84 [x] 0 = some x := rfl
theorem ld_83_3_81 (x : api_Hand) : partOf T.T 81 (c83 x) 3 = some (.agg (c81 x.Param)) := by
  rw [c83]
  rw [show 3 = 2 + 1 from rfl, part_skip T.t81 (Enc.len (e := c28) _)]
  rw [show 1 = 1 + 0 from rfl, part_skip T.t81 (Enc.len (e := c9) _)]
  rw [part_head T.t81 (by decide) (by rw [Enc.len (e := c81)]; decide)]
  exact part_all T.t81 rfl (by rw [len81])
theorem ld_83_7_3 (x : api_Hand) : partOf T.T 3 (c83 x) 7 = some (.sc (.int .i64 x.Cap)) := by
  rw [c83]
  rw [show 7 = 2 + 5 from rfl, part_skip T.t3 (Enc.len (e := c28) _)]
  rw [show 5 = 1 + 4 from rfl, part_skip T.t3 (Enc.len (e := c9) _)]
  rw [show 4 = 4 + 0 from rfl, part_skip T.t3 (Enc.len (e := c81) _)]
  rw [part_head T.t3 (by decide) (by rw [Enc.len (e := c3)]; decide)]
  rfl
theorem st_92_0_92 (x : api_Con) (v : api_Con) : splice (c92 x) 0 (c92 v) = c92 v := by
  exact splice_all (by simp only [Enc.len (e := c92)])
theorem eq4 (d : Nat) (x y : Bool) : eqT T.T (d + 1) 4 (.sc (.bool x)) (.sc (.bool y)) = some (x == y) := by simp [eqT, T.t4]
theorem eqM4 (x y : Bool) : eqT T.T Op.maxDepth 4 (.sc (.bool x)) (.sc (.bool y)) = some (x == y) := eq4 9999 x y
end Go.Proofs.YtappiofmkoelnaaGreatDoor.M
end
