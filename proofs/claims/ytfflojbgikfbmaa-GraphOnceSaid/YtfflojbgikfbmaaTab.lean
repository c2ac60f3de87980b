/-
  The types of the program, as the evaluator wants them.
-/
import Derived.Test.YtfflojbgikfbmaaProg
import Derived.Test.YtfflojbgikfbmaaAh14
namespace Go.Proofs.Ytfflojbgikfbmaa.T
open Go.Proofs.YtfflojbgikfbmaaW.Ah
abbrev i1 : TI := { k := .func, size := 1, bytes := 8, zero := [.nilFunc] }
abbrev i2 : TI := { k := .int .i64, size := 1, bytes := 8, zero := [.int .i64 0] }
abbrev i3 : TI := { k := .int .i64, size := 1, bytes := 8, zero := [.int .i64 0] }
abbrev i4 : TI := { k := .bool, size := 1, bytes := 1, zero := [.bool false] }
abbrev i5 : TI := { k := .int .u8, size := 1, bytes := 1, zero := [.int .u8 0] }
abbrev i6 : TI := { k := .int .u8, size := 1, bytes := 1, zero := [.int .u8 0] }
abbrev i7 : TI := { k := .struct [(0, 2), (1, 3), (2, 4), (3, 6)], size := 4, bytes := 24, zero := [.int .i64 0, .int .i64 0, .bool false, .int .u8 0], eq := true }
abbrev i8 : TI := { k := .struct [(0, 2), (1, 3), (2, 4), (3, 6)], size := 4, bytes := 24, zero := [.int .i64 0, .int .i64 0, .bool false, .int .u8 0], eq := true }
abbrev i9 : TI := { k := .str, size := 1, bytes := 16, zero := [.string ⟨#[]⟩] }
abbrev i10 : TI := { k := .str, size := 1, bytes := 16, zero := [.string ⟨#[]⟩] }
abbrev i11 : TI := { k := .str, size := 1, bytes := 16, zero := [.string ⟨#[]⟩] }
abbrev i12 : TI := { k := .int .u64, size := 1, bytes := 8, zero := [.int .u64 0] }
abbrev i13 : TI := { k := .struct [(0, 9), (1, 12)], size := 2, bytes := 24, zero := [.string ⟨#[]⟩, .int .u64 0] }
abbrev i14 : TI := { k := .struct [(0, 9), (1, 12)], size := 2, bytes := 24, zero := [.string ⟨#[]⟩, .int .u64 0] }
abbrev i15 : TI := { k := .ptr 220, size := 1, bytes := 8, zero := [.pointer none] }
abbrev i16 : TI := { k := .ptr 223, size := 1, bytes := 8, zero := [.pointer none] }
abbrev i17 : TI := { k := .ptr 231, size := 1, bytes := 8, zero := [.pointer none] }
abbrev i18 : TI := { k := .struct [(0, 17)], size := 1, bytes := 8, zero := [.pointer none] }
abbrev i19 : TI := { k := .struct [(0, 17)], size := 1, bytes := 8, zero := [.pointer none] }
abbrev i21 : TI := { k := .int .i32, size := 1, bytes := 4, zero := [.int .i32 0] }
abbrev i22 : TI := { k := .slice 37, size := 1, bytes := 24, zero := [.slice none 0 0] }
abbrev i23 : TI := { k := .slice 31, size := 1, bytes := 24, zero := [.slice none 0 0] }
abbrev i24 : TI := { k := .func, size := 1, bytes := 8, zero := [.nilFunc] }
abbrev i25 : TI := { k := .func, size := 1, bytes := 8, zero := [.nilFunc] }
abbrev i26 : TI := { k := .int .i64, size := 1, bytes := 8, zero := [.int .i64 0] }
abbrev i28 : TI := { k := .func, size := 1, bytes := 8, zero := [.nilFunc] }
abbrev i29 : TI := { k := .func, size := 1, bytes := 8, zero := [.nilFunc] }
abbrev i30 : TI := { k := .struct [(0, 4), (1, 3), (2, 2)], size := 3, bytes := 24, zero := [.bool false, .int .i64 0, .int .i64 0], eq := true }
abbrev i31 : TI := { k := .struct [(0, 4), (1, 3), (2, 2)], size := 3, bytes := 24, zero := [.bool false, .int .i64 0, .int .i64 0], eq := true }
abbrev i32 : TI := { k := .func, size := 1, bytes := 8, zero := [.nilFunc] }
abbrev i33 : TI := { k := .struct [(0, 3), (1, 3), (2, 3)], size := 3, bytes := 24, zero := [.int .i64 0, .int .i64 0, .int .i64 0], eq := true }
abbrev i34 : TI := { k := .struct [(0, 3), (1, 3), (2, 3)], size := 3, bytes := 24, zero := [.int .i64 0, .int .i64 0, .int .i64 0], eq := true }
abbrev i35 : TI := { k := .slice 5, size := 1, bytes := 24, zero := [.slice none 0 0] }
abbrev i36 : TI := { k := .struct [(0, 34), (3, 35), (4, 23)], size := 5, bytes := 72, zero := [.int .i64 0, .int .i64 0, .int .i64 0, .slice none 0 0, .slice none 0 0] }
abbrev i37 : TI := { k := .struct [(0, 34), (3, 35), (4, 23)], size := 5, bytes := 72, zero := [.int .i64 0, .int .i64 0, .int .i64 0, .slice none 0 0, .slice none 0 0], ex := true }
abbrev i38 : TI := { k := .func, size := 1, bytes := 8, zero := [.nilFunc] }
abbrev i39 : TI := { k := .slice 40, size := 1, bytes := 24, zero := [.slice none 0 0] }
abbrev i40 : TI := { k := .int .u64, size := 1, bytes := 8, zero := [.int .u64 0] }
abbrev i41 : TI := { k := .ptr 130, size := 1, bytes := 8, zero := [.pointer none] }
abbrev i43 : TI := { k := .func, size := 1, bytes := 8, zero := [.nilFunc] }
abbrev i44 : TI := { k := .func, size := 1, bytes := 8, zero := [.nilFunc] }
abbrev i45 : TI := { k := .func, size := 1, bytes := 8, zero := [.nilFunc] }
abbrev i46 : TI := { k := .func, size := 1, bytes := 8, zero := [.nilFunc] }
abbrev i47 : TI := { k := .slice 79, size := 1, bytes := 24, zero := [.slice none 0 0] }
abbrev i48 : TI := { k := .struct [(0, 39), (1, 47), (2, 3)], size := 3, bytes := 56, zero := [.slice none 0 0, .slice none 0 0, .int .i64 0] }
abbrev i49 : TI := { k := .struct [(0, 39), (1, 47), (2, 3)], size := 3, bytes := 56, zero := [.slice none 0 0, .slice none 0 0, .int .i64 0] }
abbrev i50 : TI := { k := .func, size := 1, bytes := 8, zero := [.nilFunc] }
abbrev i52 : TI := { k := .func, size := 1, bytes := 8, zero := [.nilFunc] }
abbrev i53 : TI := { k := .func, size := 1, bytes := 8, zero := [.nilFunc] }
abbrev i54 : TI := { k := .func, size := 1, bytes := 8, zero := [.nilFunc] }
abbrev i55 : TI := { k := .func, size := 1, bytes := 8, zero := [.nilFunc] }
abbrev i56 : TI := { k := .func, size := 1, bytes := 8, zero := [.nilFunc] }
abbrev i57 : TI := { k := .func, size := 1, bytes := 8, zero := [.nilFunc] }
abbrev i58 : TI := { k := .func, size := 1, bytes := 8, zero := [.nilFunc] }
abbrev i60 : TI := { k := .func, size := 1, bytes := 8, zero := [.nilFunc] }
abbrev i61 : TI := { k := .func, size := 1, bytes := 8, zero := [.nilFunc] }
abbrev i62 : TI := { k := .slice 34, size := 1, bytes := 24, zero := [.slice none 0 0] }
abbrev i63 : TI := { k := .ptr 144, size := 1, bytes := 8, zero := [.pointer none] }
abbrev i65 : TI := { k := .func, size := 1, bytes := 8, zero := [.nilFunc] }
abbrev i66 : TI := { k := .func, size := 1, bytes := 8, zero := [.nilFunc] }
abbrev i67 : TI := { k := .func, size := 1, bytes := 8, zero := [.nilFunc] }
abbrev i68 : TI := { k := .func, size := 1, bytes := 8, zero := [.nilFunc] }
abbrev i69 : TI := { k := .func, size := 1, bytes := 8, zero := [.nilFunc] }
abbrev i70 : TI := { k := .int .u32, size := 1, bytes := 4, zero := [.int .u32 0] }
abbrev i71 : TI := { k := .func, size := 1, bytes := 8, zero := [.nilFunc] }
abbrev i72 : TI := { k := .slice 77, size := 1, bytes := 24, zero := [.slice none 0 0] }
abbrev i73 : TI := { k := .ptr 150, size := 1, bytes := 8, zero := [.pointer none] }
abbrev i75 : TI := { k := .func, size := 1, bytes := 8, zero := [.nilFunc] }
abbrev i76 : TI := { k := .struct [(0, 5), (1, 40), (2, 3), (3, 3)], size := 4, bytes := 32, zero := [.int .u8 0, .int .u64 0, .int .i64 0, .int .i64 0], eq := true }
abbrev i77 : TI := { k := .struct [(0, 5), (1, 40), (2, 3), (3, 3)], size := 4, bytes := 32, zero := [.int .u8 0, .int .u64 0, .int .i64 0, .int .i64 0], eq := true }
abbrev i78 : TI := { k := .struct [(0, 3), (1, 3), (2, 3)], size := 3, bytes := 24, zero := [.int .i64 0, .int .i64 0, .int .i64 0], eq := true }
abbrev i79 : TI := { k := .struct [(0, 3), (1, 3), (2, 3)], size := 3, bytes := 24, zero := [.int .i64 0, .int .i64 0, .int .i64 0], eq := true }
abbrev i81 : TI := { k := .func, size := 1, bytes := 8, zero := [.nilFunc] }
abbrev i82 : TI := { k := .func, size := 1, bytes := 8, zero := [.nilFunc] }
abbrev i83 : TI := { k := .func, size := 1, bytes := 8, zero := [.nilFunc] }
abbrev i84 : TI := { k := .func, size := 1, bytes := 8, zero := [.nilFunc] }
abbrev i85 : TI := { k := .func, size := 1, bytes := 8, zero := [.nilFunc] }
abbrev i87 : TI := { k := .func, size := 1, bytes := 8, zero := [.nilFunc] }
abbrev i89 : TI := { k := .func, size := 1, bytes := 8, zero := [.nilFunc] }
abbrev i90 : TI := { k := .func, size := 1, bytes := 8, zero := [.nilFunc] }
abbrev i91 : TI := { k := .func, size := 1, bytes := 8, zero := [.nilFunc] }
abbrev i92 : TI := { k := .struct [(0, 39), (1, 3), (2, 4), (3, 3), (4, 4), (5, 3)], size := 6, bytes := 64, zero := [.slice none 0 0, .int .i64 0, .bool false, .int .i64 0, .bool false, .int .i64 0] }
abbrev i93 : TI := { k := .struct [(0, 39), (1, 3), (2, 4), (3, 3), (4, 4), (5, 3)], size := 6, bytes := 64, zero := [.slice none 0 0, .int .i64 0, .bool false, .int .i64 0, .bool false, .int .i64 0] }
abbrev i94 : TI := { k := .func, size := 1, bytes := 8, zero := [.nilFunc] }
abbrev i96 : TI := { k := .func, size := 1, bytes := 8, zero := [.nilFunc] }
abbrev i98 : TI := { k := .func, size := 1, bytes := 8, zero := [.nilFunc] }
abbrev i99 : TI := { k := .func, size := 1, bytes := 8, zero := [.nilFunc] }
abbrev i100 : TI := { k := .func, size := 1, bytes := 8, zero := [.nilFunc] }
abbrev i102 : TI := { k := .func, size := 1, bytes := 8, zero := [.nilFunc] }
abbrev i103 : TI := { k := .func, size := 1, bytes := 8, zero := [.nilFunc] }
abbrev i104 : TI := { k := .func, size := 1, bytes := 8, zero := [.nilFunc] }
abbrev i105 : TI := { k := .func, size := 1, bytes := 8, zero := [.nilFunc] }
abbrev i106 : TI := { k := .slice 113, size := 1, bytes := 24, zero := [.slice none 0 0] }
abbrev i107 : TI := { k := .func, size := 1, bytes := 8, zero := [.nilFunc] }
abbrev i108 : TI := { k := .ptr 176, size := 1, bytes := 8, zero := [.pointer none] }
abbrev i110 : TI := { k := .func, size := 1, bytes := 8, zero := [.nilFunc] }
abbrev i111 : TI := { k := .func, size := 1, bytes := 8, zero := [.nilFunc] }
abbrev i112 : TI := { k := .struct [(0, 5), (1, 34), (4, 39), (5, 40), (6, 3)], size := 7, bytes := 72, zero := [.int .u8 0, .int .i64 0, .int .i64 0, .int .i64 0, .slice none 0 0, .int .u64 0, .int .i64 0] }
abbrev i113 : TI := { k := .struct [(0, 5), (1, 34), (4, 39), (5, 40), (6, 3)], size := 7, bytes := 72, zero := [.int .u8 0, .int .i64 0, .int .i64 0, .int .i64 0, .slice none 0 0, .int .u64 0, .int .i64 0] }
abbrev i114 : TI := { k := .func, size := 1, bytes := 8, zero := [.nilFunc] }
abbrev i115 : TI := { k := .func, size := 1, bytes := 8, zero := [.nilFunc] }
abbrev i116 : TI := { k := .func, size := 1, bytes := 8, zero := [.nilFunc] }
abbrev i117 : TI := { k := .func, size := 1, bytes := 8, zero := [.nilFunc] }
abbrev i118 : TI := { k := .func, size := 1, bytes := 8, zero := [.nilFunc] }
abbrev i119 : TI := { k := .ptr 200, size := 1, bytes := 8, zero := [.pointer none] }
abbrev i120 : TI := { k := .func, size := 1, bytes := 8, zero := [.nilFunc] }
abbrev i122 : TI := { k := .func, size := 1, bytes := 8, zero := [.nilFunc] }
abbrev i123 : TI := { k := .func, size := 1, bytes := 8, zero := [.nilFunc] }
abbrev i124 : TI := { k := .func, size := 1, bytes := 8, zero := [.nilFunc] }
abbrev i125 : TI := { k := .func, size := 1, bytes := 8, zero := [.nilFunc] }
abbrev i126 : TI := { k := .func, size := 1, bytes := 8, zero := [.nilFunc] }
abbrev i127 : TI := { k := .func, size := 1, bytes := 8, zero := [.nilFunc] }
abbrev i128 : TI := { k := .slice 132, size := 1, bytes := 24, zero := [.slice none 0 0] }
abbrev i129 : TI := { k := .struct [(0, 39), (1, 128), (2, 3), (3, 3)], size := 4, bytes := 64, zero := [.slice none 0 0, .slice none 0 0, .int .i64 0, .int .i64 0] }
abbrev i130 : TI := { k := .struct [(0, 39), (1, 128), (2, 3), (3, 3)], size := 4, bytes := 64, zero := [.slice none 0 0, .slice none 0 0, .int .i64 0, .int .i64 0] }
abbrev i131 : TI := { k := .struct [(0, 79)], size := 3, bytes := 24, zero := [.int .i64 0, .int .i64 0, .int .i64 0], eq := true }
abbrev i132 : TI := { k := .struct [(0, 79)], size := 3, bytes := 24, zero := [.int .i64 0, .int .i64 0, .int .i64 0], eq := true }
abbrev i133 : TI := { k := .func, size := 1, bytes := 8, zero := [.nilFunc] }
abbrev i134 : TI := { k := .func, size := 1, bytes := 8, zero := [.nilFunc] }
abbrev i135 : TI := { k := .ptr 40, size := 1, bytes := 8, zero := [.pointer none] }
abbrev i137 : TI := { k := .func, size := 1, bytes := 8, zero := [.nilFunc] }
abbrev i138 : TI := { k := .slice 3, size := 1, bytes := 24, zero := [.slice none 0 0] }
abbrev i140 : TI := { k := .func, size := 1, bytes := 8, zero := [.nilFunc] }
abbrev i141 : TI := { k := .func, size := 1, bytes := 8, zero := [.nilFunc] }
abbrev i142 : TI := { k := .func, size := 1, bytes := 8, zero := [.nilFunc] }
abbrev i143 : TI := { k := .struct [(0, 93)], size := 6, bytes := 64, zero := [.slice none 0 0, .int .i64 0, .bool false, .int .i64 0, .bool false, .int .i64 0] }
abbrev i144 : TI := { k := .struct [(0, 93)], size := 6, bytes := 64, zero := [.slice none 0 0, .int .i64 0, .bool false, .int .i64 0, .bool false, .int .i64 0] }
abbrev i145 : TI := { k := .func, size := 1, bytes := 8, zero := [.nilFunc] }
abbrev i146 : TI := { k := .func, size := 1, bytes := 8, zero := [.nilFunc] }
abbrev i147 : TI := { k := .func, size := 1, bytes := 8, zero := [.nilFunc] }
abbrev i148 : TI := { k := .int .u64, size := 1, bytes := 8, zero := [.int .u64 0] }
abbrev i149 : TI := { k := .struct [(0, 49), (3, 3)], size := 4, bytes := 64, zero := [.slice none 0 0, .slice none 0 0, .int .i64 0, .int .i64 0] }
abbrev i150 : TI := { k := .struct [(0, 49), (3, 3)], size := 4, bytes := 64, zero := [.slice none 0 0, .slice none 0 0, .int .i64 0, .int .i64 0] }
abbrev i151 : TI := { k := .func, size := 1, bytes := 8, zero := [.nilFunc] }
abbrev i153 : TI := { k := .func, size := 1, bytes := 8, zero := [.nilFunc] }
abbrev i154 : TI := { k := .func, size := 1, bytes := 8, zero := [.nilFunc] }
abbrev i155 : TI := { k := .func, size := 1, bytes := 8, zero := [.nilFunc] }
abbrev i156 : TI := { k := .func, size := 1, bytes := 8, zero := [.nilFunc] }
abbrev i157 : TI := { k := .func, size := 1, bytes := 8, zero := [.nilFunc] }
abbrev i158 : TI := { k := .func, size := 1, bytes := 8, zero := [.nilFunc] }
abbrev i159 : TI := { k := .func, size := 1, bytes := 8, zero := [.nilFunc] }
abbrev i160 : TI := { k := .func, size := 1, bytes := 8, zero := [.nilFunc] }
abbrev i162 : TI := { k := .func, size := 1, bytes := 8, zero := [.nilFunc] }
abbrev i163 : TI := { k := .func, size := 1, bytes := 8, zero := [.nilFunc] }
abbrev i164 : TI := { k := .func, size := 1, bytes := 8, zero := [.nilFunc] }
abbrev i166 : TI := { k := .func, size := 1, bytes := 8, zero := [.nilFunc] }
abbrev i167 : TI := { k := .func, size := 1, bytes := 8, zero := [.nilFunc] }
abbrev i168 : TI := { k := .func, size := 1, bytes := 8, zero := [.nilFunc] }
abbrev i169 : TI := { k := .func, size := 1, bytes := 8, zero := [.nilFunc] }
abbrev i170 : TI := { k := .func, size := 1, bytes := 8, zero := [.nilFunc] }
abbrev i171 : TI := { k := .func, size := 1, bytes := 8, zero := [.nilFunc] }
abbrev i172 : TI := { k := .func, size := 1, bytes := 8, zero := [.nilFunc] }
abbrev i173 : TI := { k := .func, size := 1, bytes := 8, zero := [.nilFunc] }
abbrev i174 : TI := { k := .func, size := 1, bytes := 8, zero := [.nilFunc] }
abbrev i175 : TI := { k := .struct [(0, 93)], size := 6, bytes := 64, zero := [.slice none 0 0, .int .i64 0, .bool false, .int .i64 0, .bool false, .int .i64 0] }
abbrev i176 : TI := { k := .struct [(0, 93)], size := 6, bytes := 64, zero := [.slice none 0 0, .int .i64 0, .bool false, .int .i64 0, .bool false, .int .i64 0] }
abbrev i177 : TI := { k := .func, size := 1, bytes := 8, zero := [.nilFunc] }
abbrev i179 : TI := { k := .func, size := 1, bytes := 8, zero := [.nilFunc] }
abbrev i180 : TI := { k := .func, size := 1, bytes := 8, zero := [.nilFunc] }
abbrev i182 : TI := { k := .func, size := 1, bytes := 8, zero := [.nilFunc] }
abbrev i184 : TI := { k := .func, size := 1, bytes := 8, zero := [.nilFunc] }
abbrev i186 : TI := { k := .func, size := 1, bytes := 8, zero := [.nilFunc] }
abbrev i187 : TI := { k := .func, size := 1, bytes := 8, zero := [.nilFunc] }
abbrev i188 : TI := { k := .func, size := 1, bytes := 8, zero := [.nilFunc] }
abbrev i190 : TI := { k := .func, size := 1, bytes := 8, zero := [.nilFunc] }
abbrev i191 : TI := { k := .ptr 193, size := 1, bytes := 8, zero := [.pointer none] }
abbrev i192 : TI := { k := .struct [(0, 63), (1, 119), (2, 39)], size := 3, bytes := 40, zero := [.pointer none, .pointer none, .slice none 0 0] }
abbrev i193 : TI := { k := .struct [(0, 63), (1, 119), (2, 39)], size := 3, bytes := 40, zero := [.pointer none, .pointer none, .slice none 0 0] }
abbrev i195 : TI := { k := .func, size := 1, bytes := 8, zero := [.nilFunc] }
abbrev i197 : TI := { k := .func, size := 1, bytes := 8, zero := [.nilFunc] }
abbrev i198 : TI := { k := .map 3 3, size := 1, bytes := 8, zero := [.map none] }
abbrev i199 : TI := { k := .struct [(0, 198), (1, 138)], size := 2, bytes := 32, zero := [.map none, .slice none 0 0] }
abbrev i200 : TI := { k := .struct [(0, 198), (1, 138)], size := 2, bytes := 32, zero := [.map none, .slice none 0 0] }
abbrev i201 : TI := { k := .func, size := 1, bytes := 8, zero := [.nilFunc] }
abbrev i202 : TI := { k := .func, size := 1, bytes := 8, zero := [.nilFunc] }
abbrev i203 : TI := { k := .func, size := 1, bytes := 8, zero := [.nilFunc] }
abbrev i204 : TI := { k := .func, size := 1, bytes := 8, zero := [.nilFunc] }
abbrev i205 : TI := { k := .func, size := 1, bytes := 8, zero := [.nilFunc] }
abbrev i207 : TI := { k := .func, size := 1, bytes := 8, zero := [.nilFunc] }
abbrev i208 : TI := { k := .func, size := 1, bytes := 8, zero := [.nilFunc] }
abbrev i209 : TI := { k := .func, size := 1, bytes := 8, zero := [.nilFunc] }
abbrev i211 : TI := { k := .func, size := 1, bytes := 8, zero := [.nilFunc] }
abbrev i212 : TI := { k := .func, size := 1, bytes := 8, zero := [.nilFunc] }
abbrev i214 : TI := { k := .func, size := 1, bytes := 8, zero := [.nilFunc] }
abbrev i215 : TI := { k := .int .i64, size := 1, bytes := 8, zero := [.int .i64 0] }
abbrev i216 : TI := { k := .func, size := 1, bytes := 8, zero := [.nilFunc] }
abbrev i218 : TI := { k := .func, size := 1, bytes := 8, zero := [.nilFunc] }
abbrev i219 : TI := { k := .struct [(0, 17), (1, 17), (2, 17), (3, 9)], size := 4, bytes := 40, zero := [.pointer none, .pointer none, .pointer none, .string ⟨#[]⟩] }
abbrev i220 : TI := { k := .struct [(0, 17), (1, 17), (2, 17), (3, 9)], size := 4, bytes := 40, zero := [.pointer none, .pointer none, .pointer none, .string ⟨#[]⟩] }
abbrev i221 : TI := { k := .arr 0 16, size := 0, bytes := 0, zero := [] }
abbrev i222 : TI := { k := .struct [(0, 221)], size := 0, bytes := 0, zero := [] }
abbrev i223 : TI := { k := .struct [(0, 221)], size := 0, bytes := 0, zero := [] }
abbrev i224 : TI := { k := .int .u8, size := 1, bytes := 1, zero := [.int .u8 0] }
abbrev i225 : TI := { k := .int .u8, size := 1, bytes := 1, zero := [.int .u8 0] }
abbrev i226 : TI := { k := .func, size := 1, bytes := 8, zero := [.nilFunc] }
abbrev i227 : TI := { k := .ptr 5, size := 1, bytes := 8, zero := [.pointer none] }
abbrev i228 : TI := { k := .int .i32, size := 1, bytes := 4, zero := [.int .i32 0] }
abbrev i229 : TI := { k := .int .i32, size := 1, bytes := 4, zero := [.int .i32 0] }
abbrev i230 : TI := { k := .struct [(0, 12), (1, 12), (2, 70), (3, 224), (4, 5), (5, 5), (6, 225), (7, 226), (8, 227), (9, 228), (10, 229)], size := 11, bytes := 48, zero := [.int .u64 0, .int .u64 0, .int .u32 0, .int .u8 0, .int .u8 0, .int .u8 0, .int .u8 0, .nilFunc, .pointer none, .int .i32 0, .int .i32 0] }
abbrev i231 : TI := { k := .struct [(0, 12), (1, 12), (2, 70), (3, 224), (4, 5), (5, 5), (6, 225), (7, 226), (8, 227), (9, 228), (10, 229)], size := 11, bytes := 48, zero := [.int .u64 0, .int .u64 0, .int .u32 0, .int .u8 0, .int .u8 0, .int .u8 0, .int .u8 0, .nilFunc, .pointer none, .int .i32 0, .int .i32 0] }
abbrev i232 : TI := { k := .func, size := 1, bytes := 8, zero := [.nilFunc] }
def L : List (Nat × TI) := [(1, i1), (2, i2), (3, i3), (4, i4), (5, i5), (6, i6), (7, i7), (8, i8), (9, i9), (10, i10), (11, i11), (12, i12), (13, i13), (14, i14), (15, i15), (16, i16), (17, i17), (18, i18), (19, i19), (21, i21), (22, i22), (23, i23), (24, i24), (25, i25), (26, i26), (28, i28), (29, i29), (30, i30), (31, i31), (32, i32), (33, i33), (34, i34), (35, i35), (36, i36), (37, i37), (38, i38), (39, i39), (40, i40), (41, i41), (43, i43), (44, i44), (45, i45), (46, i46), (47, i47), (48, i48), (49, i49), (50, i50), (52, i52), (53, i53), (54, i54), (55, i55), (56, i56), (57, i57), (58, i58), (60, i60), (61, i61), (62, i62), (63, i63), (65, i65), (66, i66), (67, i67), (68, i68), (69, i69), (70, i70), (71, i71), (72, i72), (73, i73), (75, i75), (76, i76), (77, i77), (78, i78), (79, i79), (81, i81), (82, i82), (83, i83), (84, i84), (85, i85), (87, i87), (89, i89), (90, i90), (91, i91), (92, i92), (93, i93), (94, i94), (96, i96), (98, i98), (99, i99), (100, i100), (102, i102), (103, i103), (104, i104), (105, i105), (106, i106), (107, i107), (108, i108), (110, i110), (111, i111), (112, i112), (113, i113), (114, i114), (115, i115), (116, i116), (117, i117), (118, i118), (119, i119), (120, i120), (122, i122), (123, i123), (124, i124), (125, i125), (126, i126), (127, i127), (128, i128), (129, i129), (130, i130), (131, i131), (132, i132), (133, i133), (134, i134), (135, i135), (137, i137), (138, i138), (140, i140), (141, i141), (142, i142), (143, i143), (144, i144), (145, i145), (146, i146), (147, i147), (148, i148), (149, i149), (150, i150), (151, i151), (153, i153), (154, i154), (155, i155), (156, i156), (157, i157), (158, i158), (159, i159), (160, i160), (162, i162), (163, i163), (164, i164), (166, i166), (167, i167), (168, i168), (169, i169), (170, i170), (171, i171), (172, i172), (173, i173), (174, i174), (175, i175), (176, i176), (177, i177), (179, i179), (180, i180), (182, i182), (184, i184), (186, i186), (187, i187), (188, i188), (190, i190), (191, i191), (192, i192), (193, i193), (195, i195), (197, i197), (198, i198), (199, i199), (200, i200), (201, i201), (202, i202), (203, i203), (204, i204), (205, i205), (207, i207), (208, i208), (209, i209), (211, i211), (212, i212), (214, i214), (215, i215), (216, i216), (218, i218), (219, i219), (220, i220), (221, i221), (222, i222), (223, i223), (224, i224), (225, i225), (226, i226), (227, i227), (228, i228), (229, i229), (230, i230), (231, i231), (232, i232)]
def T : Tab := tabOf L
theorem ok : TOk Try.prog T := tabOk (by kernel_rfl)
theorem t1 : T 1 = some { k := .func, size := 1, bytes := 8, zero := [.nilFunc] } := rfl
theorem t2 : T 2 = some { k := .int .i64, size := 1, bytes := 8, zero := [.int .i64 0] } := rfl
theorem t3 : T 3 = some { k := .int .i64, size := 1, bytes := 8, zero := [.int .i64 0] } := rfl
theorem t4 : T 4 = some { k := .bool, size := 1, bytes := 1, zero := [.bool false] } := rfl
theorem t5 : T 5 = some { k := .int .u8, size := 1, bytes := 1, zero := [.int .u8 0] } := rfl
theorem t6 : T 6 = some { k := .int .u8, size := 1, bytes := 1, zero := [.int .u8 0] } := rfl
theorem t7 : T 7 = some { k := .struct [(0, 2), (1, 3), (2, 4), (3, 6)], size := 4, bytes := 24, zero := [.int .i64 0, .int .i64 0, .bool false, .int .u8 0], eq := true } := rfl
theorem t8 : T 8 = some { k := .struct [(0, 2), (1, 3), (2, 4), (3, 6)], size := 4, bytes := 24, zero := [.int .i64 0, .int .i64 0, .bool false, .int .u8 0], eq := true } := rfl
theorem t9 : T 9 = some { k := .str, size := 1, bytes := 16, zero := [.string ⟨#[]⟩] } := rfl
theorem t10 : T 10 = some { k := .str, size := 1, bytes := 16, zero := [.string ⟨#[]⟩] } := rfl
theorem t11 : T 11 = some { k := .str, size := 1, bytes := 16, zero := [.string ⟨#[]⟩] } := rfl
theorem t12 : T 12 = some { k := .int .u64, size := 1, bytes := 8, zero := [.int .u64 0] } := rfl
theorem t13 : T 13 = some { k := .struct [(0, 9), (1, 12)], size := 2, bytes := 24, zero := [.string ⟨#[]⟩, .int .u64 0] } := rfl
theorem t14 : T 14 = some { k := .struct [(0, 9), (1, 12)], size := 2, bytes := 24, zero := [.string ⟨#[]⟩, .int .u64 0] } := rfl
theorem t15 : T 15 = some { k := .ptr 220, size := 1, bytes := 8, zero := [.pointer none] } := rfl
theorem t16 : T 16 = some { k := .ptr 223, size := 1, bytes := 8, zero := [.pointer none] } := rfl
theorem t17 : T 17 = some { k := .ptr 231, size := 1, bytes := 8, zero := [.pointer none] } := rfl
theorem t18 : T 18 = some { k := .struct [(0, 17)], size := 1, bytes := 8, zero := [.pointer none] } := rfl
theorem t19 : T 19 = some { k := .struct [(0, 17)], size := 1, bytes := 8, zero := [.pointer none] } := rfl
theorem t21 : T 21 = some { k := .int .i32, size := 1, bytes := 4, zero := [.int .i32 0] } := rfl
theorem t22 : T 22 = some { k := .slice 37, size := 1, bytes := 24, zero := [.slice none 0 0] } := rfl
theorem t23 : T 23 = some { k := .slice 31, size := 1, bytes := 24, zero := [.slice none 0 0] } := rfl
theorem t24 : T 24 = some { k := .func, size := 1, bytes := 8, zero := [.nilFunc] } := rfl
theorem t25 : T 25 = some { k := .func, size := 1, bytes := 8, zero := [.nilFunc] } := rfl
theorem t26 : T 26 = some { k := .int .i64, size := 1, bytes := 8, zero := [.int .i64 0] } := rfl
theorem t28 : T 28 = some { k := .func, size := 1, bytes := 8, zero := [.nilFunc] } := rfl
theorem t29 : T 29 = some { k := .func, size := 1, bytes := 8, zero := [.nilFunc] } := rfl
theorem t30 : T 30 = some { k := .struct [(0, 4), (1, 3), (2, 2)], size := 3, bytes := 24, zero := [.bool false, .int .i64 0, .int .i64 0], eq := true } := rfl
theorem t31 : T 31 = some { k := .struct [(0, 4), (1, 3), (2, 2)], size := 3, bytes := 24, zero := [.bool false, .int .i64 0, .int .i64 0], eq := true } := rfl
theorem t32 : T 32 = some { k := .func, size := 1, bytes := 8, zero := [.nilFunc] } := rfl
theorem t33 : T 33 = some { k := .struct [(0, 3), (1, 3), (2, 3)], size := 3, bytes := 24, zero := [.int .i64 0, .int .i64 0, .int .i64 0], eq := true } := rfl
theorem t34 : T 34 = some { k := .struct [(0, 3), (1, 3), (2, 3)], size := 3, bytes := 24, zero := [.int .i64 0, .int .i64 0, .int .i64 0], eq := true } := rfl
theorem t35 : T 35 = some { k := .slice 5, size := 1, bytes := 24, zero := [.slice none 0 0] } := rfl
theorem t36 : T 36 = some { k := .struct [(0, 34), (3, 35), (4, 23)], size := 5, bytes := 72, zero := [.int .i64 0, .int .i64 0, .int .i64 0, .slice none 0 0, .slice none 0 0] } := rfl
theorem t37 : T 37 = some { k := .struct [(0, 34), (3, 35), (4, 23)], size := 5, bytes := 72, zero := [.int .i64 0, .int .i64 0, .int .i64 0, .slice none 0 0, .slice none 0 0], ex := true } := rfl
theorem t38 : T 38 = some { k := .func, size := 1, bytes := 8, zero := [.nilFunc] } := rfl
theorem t39 : T 39 = some { k := .slice 40, size := 1, bytes := 24, zero := [.slice none 0 0] } := rfl
theorem t40 : T 40 = some { k := .int .u64, size := 1, bytes := 8, zero := [.int .u64 0] } := rfl
theorem t41 : T 41 = some { k := .ptr 130, size := 1, bytes := 8, zero := [.pointer none] } := rfl
theorem t43 : T 43 = some { k := .func, size := 1, bytes := 8, zero := [.nilFunc] } := rfl
theorem t44 : T 44 = some { k := .func, size := 1, bytes := 8, zero := [.nilFunc] } := rfl
theorem t45 : T 45 = some { k := .func, size := 1, bytes := 8, zero := [.nilFunc] } := rfl
theorem t46 : T 46 = some { k := .func, size := 1, bytes := 8, zero := [.nilFunc] } := rfl
theorem t47 : T 47 = some { k := .slice 79, size := 1, bytes := 24, zero := [.slice none 0 0] } := rfl
theorem t48 : T 48 = some { k := .struct [(0, 39), (1, 47), (2, 3)], size := 3, bytes := 56, zero := [.slice none 0 0, .slice none 0 0, .int .i64 0] } := rfl
theorem t49 : T 49 = some { k := .struct [(0, 39), (1, 47), (2, 3)], size := 3, bytes := 56, zero := [.slice none 0 0, .slice none 0 0, .int .i64 0] } := rfl
theorem t50 : T 50 = some { k := .func, size := 1, bytes := 8, zero := [.nilFunc] } := rfl
theorem t52 : T 52 = some { k := .func, size := 1, bytes := 8, zero := [.nilFunc] } := rfl
theorem t53 : T 53 = some { k := .func, size := 1, bytes := 8, zero := [.nilFunc] } := rfl
theorem t54 : T 54 = some { k := .func, size := 1, bytes := 8, zero := [.nilFunc] } := rfl
theorem t55 : T 55 = some { k := .func, size := 1, bytes := 8, zero := [.nilFunc] } := rfl
theorem t56 : T 56 = some { k := .func, size := 1, bytes := 8, zero := [.nilFunc] } := rfl
theorem t57 : T 57 = some { k := .func, size := 1, bytes := 8, zero := [.nilFunc] } := rfl
theorem t58 : T 58 = some { k := .func, size := 1, bytes := 8, zero := [.nilFunc] } := rfl
theorem t60 : T 60 = some { k := .func, size := 1, bytes := 8, zero := [.nilFunc] } := rfl
theorem t61 : T 61 = some { k := .func, size := 1, bytes := 8, zero := [.nilFunc] } := rfl
theorem t62 : T 62 = some { k := .slice 34, size := 1, bytes := 24, zero := [.slice none 0 0] } := rfl
theorem t63 : T 63 = some { k := .ptr 144, size := 1, bytes := 8, zero := [.pointer none] } := rfl
theorem t65 : T 65 = some { k := .func, size := 1, bytes := 8, zero := [.nilFunc] } := rfl
theorem t66 : T 66 = some { k := .func, size := 1, bytes := 8, zero := [.nilFunc] } := rfl
theorem t67 : T 67 = some { k := .func, size := 1, bytes := 8, zero := [.nilFunc] } := rfl
theorem t68 : T 68 = some { k := .func, size := 1, bytes := 8, zero := [.nilFunc] } := rfl
theorem t69 : T 69 = some { k := .func, size := 1, bytes := 8, zero := [.nilFunc] } := rfl
theorem t70 : T 70 = some { k := .int .u32, size := 1, bytes := 4, zero := [.int .u32 0] } := rfl
theorem t71 : T 71 = some { k := .func, size := 1, bytes := 8, zero := [.nilFunc] } := rfl
theorem t72 : T 72 = some { k := .slice 77, size := 1, bytes := 24, zero := [.slice none 0 0] } := rfl
theorem t73 : T 73 = some { k := .ptr 150, size := 1, bytes := 8, zero := [.pointer none] } := rfl
theorem t75 : T 75 = some { k := .func, size := 1, bytes := 8, zero := [.nilFunc] } := rfl
theorem t76 : T 76 = some { k := .struct [(0, 5), (1, 40), (2, 3), (3, 3)], size := 4, bytes := 32, zero := [.int .u8 0, .int .u64 0, .int .i64 0, .int .i64 0], eq := true } := rfl
theorem t77 : T 77 = some { k := .struct [(0, 5), (1, 40), (2, 3), (3, 3)], size := 4, bytes := 32, zero := [.int .u8 0, .int .u64 0, .int .i64 0, .int .i64 0], eq := true } := rfl
theorem t78 : T 78 = some { k := .struct [(0, 3), (1, 3), (2, 3)], size := 3, bytes := 24, zero := [.int .i64 0, .int .i64 0, .int .i64 0], eq := true } := rfl
theorem t79 : T 79 = some { k := .struct [(0, 3), (1, 3), (2, 3)], size := 3, bytes := 24, zero := [.int .i64 0, .int .i64 0, .int .i64 0], eq := true } := rfl
theorem t81 : T 81 = some { k := .func, size := 1, bytes := 8, zero := [.nilFunc] } := rfl
theorem t82 : T 82 = some { k := .func, size := 1, bytes := 8, zero := [.nilFunc] } := rfl
theorem t83 : T 83 = some { k := .func, size := 1, bytes := 8, zero := [.nilFunc] } := rfl
theorem t84 : T 84 = some { k := .func, size := 1, bytes := 8, zero := [.nilFunc] } := rfl
theorem t85 : T 85 = some { k := .func, size := 1, bytes := 8, zero := [.nilFunc] } := rfl
theorem t87 : T 87 = some { k := .func, size := 1, bytes := 8, zero := [.nilFunc] } := rfl
theorem t89 : T 89 = some { k := .func, size := 1, bytes := 8, zero := [.nilFunc] } := rfl
theorem t90 : T 90 = some { k := .func, size := 1, bytes := 8, zero := [.nilFunc] } := rfl
theorem t91 : T 91 = some { k := .func, size := 1, bytes := 8, zero := [.nilFunc] } := rfl
theorem t92 : T 92 = some { k := .struct [(0, 39), (1, 3), (2, 4), (3, 3), (4, 4), (5, 3)], size := 6, bytes := 64, zero := [.slice none 0 0, .int .i64 0, .bool false, .int .i64 0, .bool false, .int .i64 0] } := rfl
theorem t93 : T 93 = some { k := .struct [(0, 39), (1, 3), (2, 4), (3, 3), (4, 4), (5, 3)], size := 6, bytes := 64, zero := [.slice none 0 0, .int .i64 0, .bool false, .int .i64 0, .bool false, .int .i64 0] } := rfl
theorem t94 : T 94 = some { k := .func, size := 1, bytes := 8, zero := [.nilFunc] } := rfl
theorem t96 : T 96 = some { k := .func, size := 1, bytes := 8, zero := [.nilFunc] } := rfl
theorem t98 : T 98 = some { k := .func, size := 1, bytes := 8, zero := [.nilFunc] } := rfl
theorem t99 : T 99 = some { k := .func, size := 1, bytes := 8, zero := [.nilFunc] } := rfl
theorem t100 : T 100 = some { k := .func, size := 1, bytes := 8, zero := [.nilFunc] } := rfl
theorem t102 : T 102 = some { k := .func, size := 1, bytes := 8, zero := [.nilFunc] } := rfl
theorem t103 : T 103 = some { k := .func, size := 1, bytes := 8, zero := [.nilFunc] } := rfl
theorem t104 : T 104 = some { k := .func, size := 1, bytes := 8, zero := [.nilFunc] } := rfl
theorem t105 : T 105 = some { k := .func, size := 1, bytes := 8, zero := [.nilFunc] } := rfl
theorem t106 : T 106 = some { k := .slice 113, size := 1, bytes := 24, zero := [.slice none 0 0] } := rfl
theorem t107 : T 107 = some { k := .func, size := 1, bytes := 8, zero := [.nilFunc] } := rfl
theorem t108 : T 108 = some { k := .ptr 176, size := 1, bytes := 8, zero := [.pointer none] } := rfl
theorem t110 : T 110 = some { k := .func, size := 1, bytes := 8, zero := [.nilFunc] } := rfl
theorem t111 : T 111 = some { k := .func, size := 1, bytes := 8, zero := [.nilFunc] } := rfl
theorem t112 : T 112 = some { k := .struct [(0, 5), (1, 34), (4, 39), (5, 40), (6, 3)], size := 7, bytes := 72, zero := [.int .u8 0, .int .i64 0, .int .i64 0, .int .i64 0, .slice none 0 0, .int .u64 0, .int .i64 0] } := rfl
theorem t113 : T 113 = some { k := .struct [(0, 5), (1, 34), (4, 39), (5, 40), (6, 3)], size := 7, bytes := 72, zero := [.int .u8 0, .int .i64 0, .int .i64 0, .int .i64 0, .slice none 0 0, .int .u64 0, .int .i64 0] } := rfl
theorem t114 : T 114 = some { k := .func, size := 1, bytes := 8, zero := [.nilFunc] } := rfl
theorem t115 : T 115 = some { k := .func, size := 1, bytes := 8, zero := [.nilFunc] } := rfl
theorem t116 : T 116 = some { k := .func, size := 1, bytes := 8, zero := [.nilFunc] } := rfl
theorem t117 : T 117 = some { k := .func, size := 1, bytes := 8, zero := [.nilFunc] } := rfl
theorem t118 : T 118 = some { k := .func, size := 1, bytes := 8, zero := [.nilFunc] } := rfl
theorem t119 : T 119 = some { k := .ptr 200, size := 1, bytes := 8, zero := [.pointer none] } := rfl
theorem t120 : T 120 = some { k := .func, size := 1, bytes := 8, zero := [.nilFunc] } := rfl
theorem t122 : T 122 = some { k := .func, size := 1, bytes := 8, zero := [.nilFunc] } := rfl
theorem t123 : T 123 = some { k := .func, size := 1, bytes := 8, zero := [.nilFunc] } := rfl
theorem t124 : T 124 = some { k := .func, size := 1, bytes := 8, zero := [.nilFunc] } := rfl
theorem t125 : T 125 = some { k := .func, size := 1, bytes := 8, zero := [.nilFunc] } := rfl
theorem t126 : T 126 = some { k := .func, size := 1, bytes := 8, zero := [.nilFunc] } := rfl
theorem t127 : T 127 = some { k := .func, size := 1, bytes := 8, zero := [.nilFunc] } := rfl
theorem t128 : T 128 = some { k := .slice 132, size := 1, bytes := 24, zero := [.slice none 0 0] } := rfl
theorem t129 : T 129 = some { k := .struct [(0, 39), (1, 128), (2, 3), (3, 3)], size := 4, bytes := 64, zero := [.slice none 0 0, .slice none 0 0, .int .i64 0, .int .i64 0] } := rfl
theorem t130 : T 130 = some { k := .struct [(0, 39), (1, 128), (2, 3), (3, 3)], size := 4, bytes := 64, zero := [.slice none 0 0, .slice none 0 0, .int .i64 0, .int .i64 0] } := rfl
theorem t131 : T 131 = some { k := .struct [(0, 79)], size := 3, bytes := 24, zero := [.int .i64 0, .int .i64 0, .int .i64 0], eq := true } := rfl
theorem t132 : T 132 = some { k := .struct [(0, 79)], size := 3, bytes := 24, zero := [.int .i64 0, .int .i64 0, .int .i64 0], eq := true } := rfl
theorem t133 : T 133 = some { k := .func, size := 1, bytes := 8, zero := [.nilFunc] } := rfl
theorem t134 : T 134 = some { k := .func, size := 1, bytes := 8, zero := [.nilFunc] } := rfl
theorem t135 : T 135 = some { k := .ptr 40, size := 1, bytes := 8, zero := [.pointer none] } := rfl
theorem t137 : T 137 = some { k := .func, size := 1, bytes := 8, zero := [.nilFunc] } := rfl
theorem t138 : T 138 = some { k := .slice 3, size := 1, bytes := 24, zero := [.slice none 0 0] } := rfl
theorem t140 : T 140 = some { k := .func, size := 1, bytes := 8, zero := [.nilFunc] } := rfl
theorem t141 : T 141 = some { k := .func, size := 1, bytes := 8, zero := [.nilFunc] } := rfl
theorem t142 : T 142 = some { k := .func, size := 1, bytes := 8, zero := [.nilFunc] } := rfl
theorem t143 : T 143 = some { k := .struct [(0, 93)], size := 6, bytes := 64, zero := [.slice none 0 0, .int .i64 0, .bool false, .int .i64 0, .bool false, .int .i64 0] } := rfl
theorem t144 : T 144 = some { k := .struct [(0, 93)], size := 6, bytes := 64, zero := [.slice none 0 0, .int .i64 0, .bool false, .int .i64 0, .bool false, .int .i64 0] } := rfl
theorem t145 : T 145 = some { k := .func, size := 1, bytes := 8, zero := [.nilFunc] } := rfl
theorem t146 : T 146 = some { k := .func, size := 1, bytes := 8, zero := [.nilFunc] } := rfl
theorem t147 : T 147 = some { k := .func, size := 1, bytes := 8, zero := [.nilFunc] } := rfl
theorem t148 : T 148 = some { k := .int .u64, size := 1, bytes := 8, zero := [.int .u64 0] } := rfl
theorem t149 : T 149 = some { k := .struct [(0, 49), (3, 3)], size := 4, bytes := 64, zero := [.slice none 0 0, .slice none 0 0, .int .i64 0, .int .i64 0] } := rfl
theorem t150 : T 150 = some { k := .struct [(0, 49), (3, 3)], size := 4, bytes := 64, zero := [.slice none 0 0, .slice none 0 0, .int .i64 0, .int .i64 0] } := rfl
theorem t151 : T 151 = some { k := .func, size := 1, bytes := 8, zero := [.nilFunc] } := rfl
theorem t153 : T 153 = some { k := .func, size := 1, bytes := 8, zero := [.nilFunc] } := rfl
theorem t154 : T 154 = some { k := .func, size := 1, bytes := 8, zero := [.nilFunc] } := rfl
theorem t155 : T 155 = some { k := .func, size := 1, bytes := 8, zero := [.nilFunc] } := rfl
theorem t156 : T 156 = some { k := .func, size := 1, bytes := 8, zero := [.nilFunc] } := rfl
theorem t157 : T 157 = some { k := .func, size := 1, bytes := 8, zero := [.nilFunc] } := rfl
theorem t158 : T 158 = some { k := .func, size := 1, bytes := 8, zero := [.nilFunc] } := rfl
theorem t159 : T 159 = some { k := .func, size := 1, bytes := 8, zero := [.nilFunc] } := rfl
theorem t160 : T 160 = some { k := .func, size := 1, bytes := 8, zero := [.nilFunc] } := rfl
theorem t162 : T 162 = some { k := .func, size := 1, bytes := 8, zero := [.nilFunc] } := rfl
theorem t163 : T 163 = some { k := .func, size := 1, bytes := 8, zero := [.nilFunc] } := rfl
theorem t164 : T 164 = some { k := .func, size := 1, bytes := 8, zero := [.nilFunc] } := rfl
theorem t166 : T 166 = some { k := .func, size := 1, bytes := 8, zero := [.nilFunc] } := rfl
theorem t167 : T 167 = some { k := .func, size := 1, bytes := 8, zero := [.nilFunc] } := rfl
theorem t168 : T 168 = some { k := .func, size := 1, bytes := 8, zero := [.nilFunc] } := rfl
theorem t169 : T 169 = some { k := .func, size := 1, bytes := 8, zero := [.nilFunc] } := rfl
theorem t170 : T 170 = some { k := .func, size := 1, bytes := 8, zero := [.nilFunc] } := rfl
theorem t171 : T 171 = some { k := .func, size := 1, bytes := 8, zero := [.nilFunc] } := rfl
theorem t172 : T 172 = some { k := .func, size := 1, bytes := 8, zero := [.nilFunc] } := rfl
theorem t173 : T 173 = some { k := .func, size := 1, bytes := 8, zero := [.nilFunc] } := rfl
theorem t174 : T 174 = some { k := .func, size := 1, bytes := 8, zero := [.nilFunc] } := rfl
theorem t175 : T 175 = some { k := .struct [(0, 93)], size := 6, bytes := 64, zero := [.slice none 0 0, .int .i64 0, .bool false, .int .i64 0, .bool false, .int .i64 0] } := rfl
theorem t176 : T 176 = some { k := .struct [(0, 93)], size := 6, bytes := 64, zero := [.slice none 0 0, .int .i64 0, .bool false, .int .i64 0, .bool false, .int .i64 0] } := rfl
theorem t177 : T 177 = some { k := .func, size := 1, bytes := 8, zero := [.nilFunc] } := rfl
theorem t179 : T 179 = some { k := .func, size := 1, bytes := 8, zero := [.nilFunc] } := rfl
theorem t180 : T 180 = some { k := .func, size := 1, bytes := 8, zero := [.nilFunc] } := rfl
theorem t182 : T 182 = some { k := .func, size := 1, bytes := 8, zero := [.nilFunc] } := rfl
theorem t184 : T 184 = some { k := .func, size := 1, bytes := 8, zero := [.nilFunc] } := rfl
theorem t186 : T 186 = some { k := .func, size := 1, bytes := 8, zero := [.nilFunc] } := rfl
theorem t187 : T 187 = some { k := .func, size := 1, bytes := 8, zero := [.nilFunc] } := rfl
theorem t188 : T 188 = some { k := .func, size := 1, bytes := 8, zero := [.nilFunc] } := rfl
theorem t190 : T 190 = some { k := .func, size := 1, bytes := 8, zero := [.nilFunc] } := rfl
theorem t191 : T 191 = some { k := .ptr 193, size := 1, bytes := 8, zero := [.pointer none] } := rfl
theorem t192 : T 192 = some { k := .struct [(0, 63), (1, 119), (2, 39)], size := 3, bytes := 40, zero := [.pointer none, .pointer none, .slice none 0 0] } := rfl
theorem t193 : T 193 = some { k := .struct [(0, 63), (1, 119), (2, 39)], size := 3, bytes := 40, zero := [.pointer none, .pointer none, .slice none 0 0] } := rfl
theorem t195 : T 195 = some { k := .func, size := 1, bytes := 8, zero := [.nilFunc] } := rfl
theorem t197 : T 197 = some { k := .func, size := 1, bytes := 8, zero := [.nilFunc] } := rfl
theorem t198 : T 198 = some { k := .map 3 3, size := 1, bytes := 8, zero := [.map none] } := rfl
theorem t199 : T 199 = some { k := .struct [(0, 198), (1, 138)], size := 2, bytes := 32, zero := [.map none, .slice none 0 0] } := rfl
theorem t200 : T 200 = some { k := .struct [(0, 198), (1, 138)], size := 2, bytes := 32, zero := [.map none, .slice none 0 0] } := rfl
theorem t201 : T 201 = some { k := .func, size := 1, bytes := 8, zero := [.nilFunc] } := rfl
theorem t202 : T 202 = some { k := .func, size := 1, bytes := 8, zero := [.nilFunc] } := rfl
theorem t203 : T 203 = some { k := .func, size := 1, bytes := 8, zero := [.nilFunc] } := rfl
theorem t204 : T 204 = some { k := .func, size := 1, bytes := 8, zero := [.nilFunc] } := rfl
theorem t205 : T 205 = some { k := .func, size := 1, bytes := 8, zero := [.nilFunc] } := rfl
theorem t207 : T 207 = some { k := .func, size := 1, bytes := 8, zero := [.nilFunc] } := rfl
theorem t208 : T 208 = some { k := .func, size := 1, bytes := 8, zero := [.nilFunc] } := rfl
theorem t209 : T 209 = some { k := .func, size := 1, bytes := 8, zero := [.nilFunc] } := rfl
theorem t211 : T 211 = some { k := .func, size := 1, bytes := 8, zero := [.nilFunc] } := rfl
theorem t212 : T 212 = some { k := .func, size := 1, bytes := 8, zero := [.nilFunc] } := rfl
theorem t214 : T 214 = some { k := .func, size := 1, bytes := 8, zero := [.nilFunc] } := rfl
theorem t215 : T 215 = some { k := .int .i64, size := 1, bytes := 8, zero := [.int .i64 0] } := rfl
theorem t216 : T 216 = some { k := .func, size := 1, bytes := 8, zero := [.nilFunc] } := rfl
theorem t218 : T 218 = some { k := .func, size := 1, bytes := 8, zero := [.nilFunc] } := rfl
theorem t219 : T 219 = some { k := .struct [(0, 17), (1, 17), (2, 17), (3, 9)], size := 4, bytes := 40, zero := [.pointer none, .pointer none, .pointer none, .string ⟨#[]⟩] } := rfl
theorem t220 : T 220 = some { k := .struct [(0, 17), (1, 17), (2, 17), (3, 9)], size := 4, bytes := 40, zero := [.pointer none, .pointer none, .pointer none, .string ⟨#[]⟩] } := rfl
theorem t221 : T 221 = some { k := .arr 0 16, size := 0, bytes := 0, zero := [] } := rfl
theorem t222 : T 222 = some { k := .struct [(0, 221)], size := 0, bytes := 0, zero := [] } := rfl
theorem t223 : T 223 = some { k := .struct [(0, 221)], size := 0, bytes := 0, zero := [] } := rfl
theorem t224 : T 224 = some { k := .int .u8, size := 1, bytes := 1, zero := [.int .u8 0] } := rfl
theorem t225 : T 225 = some { k := .int .u8, size := 1, bytes := 1, zero := [.int .u8 0] } := rfl
theorem t226 : T 226 = some { k := .func, size := 1, bytes := 8, zero := [.nilFunc] } := rfl
theorem t227 : T 227 = some { k := .ptr 5, size := 1, bytes := 8, zero := [.pointer none] } := rfl
theorem t228 : T 228 = some { k := .int .i32, size := 1, bytes := 4, zero := [.int .i32 0] } := rfl
theorem t229 : T 229 = some { k := .int .i32, size := 1, bytes := 4, zero := [.int .i32 0] } := rfl
theorem t230 : T 230 = some { k := .struct [(0, 12), (1, 12), (2, 70), (3, 224), (4, 5), (5, 5), (6, 225), (7, 226), (8, 227), (9, 228), (10, 229)], size := 11, bytes := 48, zero := [.int .u64 0, .int .u64 0, .int .u32 0, .int .u8 0, .int .u8 0, .int .u8 0, .int .u8 0, .nilFunc, .pointer none, .int .i32 0, .int .i32 0] } := rfl
theorem t231 : T 231 = some { k := .struct [(0, 12), (1, 12), (2, 70), (3, 224), (4, 5), (5, 5), (6, 225), (7, 226), (8, 227), (9, 228), (10, 229)], size := 11, bytes := 48, zero := [.int .u64 0, .int .u64 0, .int .u32 0, .int .u8 0, .int .u8 0, .int .u8 0, .int .u8 0, .nilFunc, .pointer none, .int .i32 0, .int .i32 0] } := rfl
theorem t232 : T 232 = some { k := .func, size := 1, bytes := 8, zero := [.nilFunc] } := rfl
end Go.Proofs.Ytfflojbgikfbmaa.T
