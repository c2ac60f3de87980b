/-
  For AstSame: texts of the road to it, 8 of 16.
-/
import Derived.Test.YtappiofmkoelnaaGreatDoorKAstSame6
import Derived.Test.YtappiofmkoelnaaGreatDoorProg
section
namespace Go.Proofs.YtappiofmkoelnaaGreatDoor.T
open Go.Proofs.YtappiofmkoelnaaGreatDoorW.Ah
abbrev i1 : TI := { k := .func, size := 1, bytes := 8, zero := [.nilFunc] }
abbrev i2 : TI := { k := .int .i64, size := 1, bytes := 8, zero := [.int .i64 0] }
abbrev i3 : TI := { k := .int .i64, size := 1, bytes := 8, zero := [.int .i64 0] }
abbrev i4 : TI := { k := .bool, size := 1, bytes := 1, zero := [.bool false] }
abbrev i5 : TI := { k := .int .u8, size := 1, bytes := 1, zero := [.int .u8 0] }
abbrev i6 : TI := { k := .int .u8, size := 1, bytes := 1, zero := [.int .u8 0] }
abbrev i7 : TI := { k := .struct [(0, 2), (1, 3), (2, 4), (3, 6)], size := 4, bytes := 24, zero := [.int .i64 0, .int .i64 0, .bool false, .int .u8 0], eq := true }
abbrev i8 : TI := { k := .struct [(0, 2), (1, 3), (2, 4), (3, 6)], size := 4, bytes := 24, zero := [.int .i64 0, .int .i64 0, .bool false, .int .u8 0], eq := true }
abbrev i9 : TI := { k := .str, size := 1, bytes := 16, zero := [.string ⟨#[]⟩] }
abbrev i16 : TI := { k := .ptr 213, size := 1, bytes := 8, zero := [.pointer none] }
abbrev i21 : TI := { k := .int .i32, size := 1, bytes := 4, zero := [.int .i32 0] }
abbrev i22 : TI := { k := .slice 72, size := 1, bytes := 24, zero := [.slice none 0 0] }
abbrev i23 : TI := { k := .slice 77, size := 1, bytes := 24, zero := [.slice none 0 0] }
abbrev i24 : TI := { k := .slice 26, size := 1, bytes := 24, zero := [.slice none 0 0] }
abbrev i26 : TI := { k := .struct [(0, 3), (1, 9), (2, 24)], size := 3, bytes := 48, zero := [.int .i64 0, .string ⟨#[]⟩, .slice none 0 0] }
abbrev i28 : TI := { k := .struct [(0, 3), (1, 3)], size := 2, bytes := 16, zero := [.int .i64 0, .int .i64 0], eq := true }
abbrev i29 : TI := { k := .slice 5, size := 1, bytes := 24, zero := [.slice none 0 0] }
abbrev i30 : TI := { k := .slice 33, size := 1, bytes := 24, zero := [.slice none 0 0] }
abbrev i31 : TI := { k := .slice 68, size := 1, bytes := 24, zero := [.slice none 0 0] }
abbrev i33 : TI := { k := .struct [(0, 3), (1, 28), (3, 2), (4, 29), (5, 9), (6, 30), (7, 31)], size := 8, bytes := 120, zero := [.int .i64 0, .int .i64 0, .int .i64 0, .int .i64 0, .slice none 0 0, .string ⟨#[]⟩, .slice none 0 0, .slice none 0 0] }
abbrev i34 : TI := { k := .slice 83, size := 1, bytes := 24, zero := [.slice none 0 0] }
abbrev i36 : TI := { k := .struct [(0, 22), (1, 23), (2, 3), (3, 3), (4, 26), (7, 3), (8, 33), (16, 34)], size := 17, bytes := 264, zero := [.slice none 0 0, .slice none 0 0, .int .i64 0, .int .i64 0, .int .i64 0, .string ⟨#[]⟩, .slice none 0 0, .int .i64 0, .int .i64 0, .int .i64 0, .int .i64 0, .int .i64 0, .slice none 0 0, .string ⟨#[]⟩, .slice none 0 0, .slice none 0 0, .slice none 0 0] }
abbrev i37 : TI := { k := .slice 39, size := 1, bytes := 24, zero := [.slice none 0 0] }
abbrev i39 : TI := { k := .struct [(0, 3), (1, 28), (3, 9), (4, 2), (5, 37)], size := 6, bytes := 72, zero := [.int .i64 0, .int .i64 0, .int .i64 0, .string ⟨#[]⟩, .int .i64 0, .slice none 0 0] }
abbrev i45 : TI := { k := .func, size := 1, bytes := 8, zero := [.nilFunc] }
abbrev i46 : TI := { k := .func, size := 1, bytes := 8, zero := [.nilFunc] }
abbrev i47 : TI := { k := .func, size := 1, bytes := 8, zero := [.nilFunc] }
abbrev i61 : TI := { k := .slice 9, size := 1, bytes := 24, zero := [.slice none 0 0] }
abbrev i68 : TI := { k := .struct [(0, 39), (6, 33)], size := 14, bytes := 192, zero := [.int .i64 0, .int .i64 0, .int .i64 0, .string ⟨#[]⟩, .int .i64 0, .slice none 0 0, .int .i64 0, .int .i64 0, .int .i64 0, .int .i64 0, .slice none 0 0, .string ⟨#[]⟩, .slice none 0 0, .slice none 0 0] }
abbrev i70 : TI := { k := .slice 92, size := 1, bytes := 24, zero := [.slice none 0 0] }
abbrev i72 : TI := { k := .struct [(0, 28), (2, 9), (3, 70)], size := 4, bytes := 56, zero := [.int .i64 0, .int .i64 0, .string ⟨#[]⟩, .slice none 0 0] }
abbrev i73 : TI := { k := .func, size := 1, bytes := 8, zero := [.nilFunc] }
abbrev i75 : TI := { k := .slice 81, size := 1, bytes := 24, zero := [.slice none 0 0] }
abbrev i77 : TI := { k := .struct [(0, 28), (2, 9), (3, 75), (4, 26), (7, 33)], size := 15, bytes := 224, zero := [.int .i64 0, .int .i64 0, .string ⟨#[]⟩, .slice none 0 0, .int .i64 0, .string ⟨#[]⟩, .slice none 0 0, .int .i64 0, .int .i64 0, .int .i64 0, .int .i64 0, .slice none 0 0, .string ⟨#[]⟩, .slice none 0 0, .slice none 0 0] }
abbrev i78 : TI := { k := .func, size := 1, bytes := 8, zero := [.nilFunc] }
abbrev i81 : TI := { k := .struct [(0, 9), (1, 26)], size := 4, bytes := 64, zero := [.string ⟨#[]⟩, .int .i64 0, .string ⟨#[]⟩, .slice none 0 0] }
abbrev i83 : TI := { k := .struct [(0, 28), (2, 9), (3, 81), (7, 3), (8, 33)], size := 16, bytes := 224, zero := [.int .i64 0, .int .i64 0, .string ⟨#[]⟩, .string ⟨#[]⟩, .int .i64 0, .string ⟨#[]⟩, .slice none 0 0, .int .i64 0, .int .i64 0, .int .i64 0, .int .i64 0, .int .i64 0, .slice none 0 0, .string ⟨#[]⟩, .slice none 0 0, .slice none 0 0] }
abbrev i84 : TI := { k := .func, size := 1, bytes := 8, zero := [.nilFunc] }
abbrev i86 : TI := { k := .func, size := 1, bytes := 8, zero := [.nilFunc] }
abbrev i87 : TI := { k := .int .i64, size := 1, bytes := 8, zero := [.int .i64 0] }
abbrev i92 : TI := { k := .struct [(0, 9), (1, 24)], size := 2, bytes := 40, zero := [.string ⟨#[]⟩, .slice none 0 0] }
abbrev i97 : TI := { k := .map 9 3, size := 1, bytes := 8, zero := [.map none] }
abbrev i105 : TI := { k := .func, size := 1, bytes := 8, zero := [.nilFunc] }
abbrev i125 : TI := { k := .ptr 127, size := 1, bytes := 8, zero := [.pointer none] }
abbrev i127 : TI := { k := .struct [(0, 97), (1, 61)], size := 2, bytes := 32, zero := [.map none, .slice none 0 0] }
abbrev i153 : TI := { k := .struct [(0, 4), (1, 4), (2, 4), (3, 3), (4, 3), (5, 4)], size := 6, bytes := 32, zero := [.bool false, .bool false, .bool false, .int .i64 0, .int .i64 0, .bool false], eq := true }
abbrev i157 : TI := { k := .func, size := 1, bytes := 8, zero := [.nilFunc] }
abbrev i211 : TI := { k := .arr 0 16, size := 0, bytes := 0, zero := [] }
abbrev i213 : TI := { k := .struct [(0, 211)], size := 0, bytes := 0, zero := [] }
def L : List (Nat × TI) := [(1, i1), (2, i2), (3, i3), (4, i4), (5, i5), (6, i6), (7, i7), (8, i8), (9, i9), (16, i16), (21, i21), (22, i22), (23, i23), (24, i24), (26, i26), (28, i28), (29, i29), (30, i30), (31, i31), (33, i33), (34, i34), (36, i36), (37, i37), (39, i39), (45, i45), (46, i46), (47, i47), (61, i61), (68, i68), (70, i70), (72, i72), (73, i73), (75, i75), (77, i77), (78, i78), (81, i81), (83, i83), (84, i84), (86, i86), (87, i87), (92, i92), (97, i97), (105, i105), (125, i125), (127, i127), (153, i153), (157, i157), (211, i211), (213, i213)]
def T : Tab := tabOf L
theorem ok : TOk Tryz.prog T := tabOk (by kernel_rfl)
theorem t1 : T 1 = some { k := .func, size := 1, bytes := 8, zero := [.nilFunc] } := rfl
theorem t2 : T 2 = some { k := .int .i64, size := 1, bytes := 8, zero := [.int .i64 0] } := rfl
theorem t3 : T 3 = some { k := .int .i64, size := 1, bytes := 8, zero := [.int .i64 0] } := rfl
theorem t4 : T 4 = some { k := .bool, size := 1, bytes := 1, zero := [.bool false] } := rfl
theorem t5 : T 5 = some { k := .int .u8, size := 1, bytes := 1, zero := [.int .u8 0] } := rfl
theorem t6 : T 6 = some { k := .int .u8, size := 1, bytes := 1, zero := [.int .u8 0] } := rfl
theorem t9 : T 9 = some { k := .str, size := 1, bytes := 16, zero := [.string ⟨#[]⟩] } := rfl
theorem t21 : T 21 = some { k := .int .i32, size := 1, bytes := 4, zero := [.int .i32 0] } := rfl
theorem t22 : T 22 = some { k := .slice 72, size := 1, bytes := 24, zero := [.slice none 0 0] } := rfl
theorem t23 : T 23 = some { k := .slice 77, size := 1, bytes := 24, zero := [.slice none 0 0] } := rfl
theorem t24 : T 24 = some { k := .slice 26, size := 1, bytes := 24, zero := [.slice none 0 0] } := rfl
theorem t26 : T 26 = some { k := .struct [(0, 3), (1, 9), (2, 24)], size := 3, bytes := 48, zero := [.int .i64 0, .string ⟨#[]⟩, .slice none 0 0] } := rfl
theorem t28 : T 28 = some { k := .struct [(0, 3), (1, 3)], size := 2, bytes := 16, zero := [.int .i64 0, .int .i64 0], eq := true } := rfl
theorem t29 : T 29 = some { k := .slice 5, size := 1, bytes := 24, zero := [.slice none 0 0] } := rfl
theorem t30 : T 30 = some { k := .slice 33, size := 1, bytes := 24, zero := [.slice none 0 0] } := rfl
theorem t31 : T 31 = some { k := .slice 68, size := 1, bytes := 24, zero := [.slice none 0 0] } := rfl
theorem t33 : T 33 = some { k := .struct [(0, 3), (1, 28), (3, 2), (4, 29), (5, 9), (6, 30), (7, 31)], size := 8, bytes := 120, zero := [.int .i64 0, .int .i64 0, .int .i64 0, .int .i64 0, .slice none 0 0, .string ⟨#[]⟩, .slice none 0 0, .slice none 0 0] } := rfl
theorem t34 : T 34 = some { k := .slice 83, size := 1, bytes := 24, zero := [.slice none 0 0] } := rfl
theorem t36 : T 36 = some { k := .struct [(0, 22), (1, 23), (2, 3), (3, 3), (4, 26), (7, 3), (8, 33), (16, 34)], size := 17, bytes := 264, zero := [.slice none 0 0, .slice none 0 0, .int .i64 0, .int .i64 0, .int .i64 0, .string ⟨#[]⟩, .slice none 0 0, .int .i64 0, .int .i64 0, .int .i64 0, .int .i64 0, .int .i64 0, .slice none 0 0, .string ⟨#[]⟩, .slice none 0 0, .slice none 0 0, .slice none 0 0] } := rfl
theorem t37 : T 37 = some { k := .slice 39, size := 1, bytes := 24, zero := [.slice none 0 0] } := rfl
theorem t39 : T 39 = some { k := .struct [(0, 3), (1, 28), (3, 9), (4, 2), (5, 37)], size := 6, bytes := 72, zero := [.int .i64 0, .int .i64 0, .int .i64 0, .string ⟨#[]⟩, .int .i64 0, .slice none 0 0] } := rfl
theorem t45 : T 45 = some { k := .func, size := 1, bytes := 8, zero := [.nilFunc] } := rfl
theorem t46 : T 46 = some { k := .func, size := 1, bytes := 8, zero := [.nilFunc] } := rfl
theorem t47 : T 47 = some { k := .func, size := 1, bytes := 8, zero := [.nilFunc] } := rfl
theorem t68 : T 68 = some { k := .struct [(0, 39), (6, 33)], size := 14, bytes := 192, zero := [.int .i64 0, .int .i64 0, .int .i64 0, .string ⟨#[]⟩, .int .i64 0, .slice none 0 0, .int .i64 0, .int .i64 0, .int .i64 0, .int .i64 0, .slice none 0 0, .string ⟨#[]⟩, .slice none 0 0, .slice none 0 0] } := rfl
theorem t70 : T 70 = some { k := .slice 92, size := 1, bytes := 24, zero := [.slice none 0 0] } := rfl
theorem t72 : T 72 = some { k := .struct [(0, 28), (2, 9), (3, 70)], size := 4, bytes := 56, zero := [.int .i64 0, .int .i64 0, .string ⟨#[]⟩, .slice none 0 0] } := rfl
theorem t73 : T 73 = some { k := .func, size := 1, bytes := 8, zero := [.nilFunc] } := rfl
theorem t75 : T 75 = some { k := .slice 81, size := 1, bytes := 24, zero := [.slice none 0 0] } := rfl
theorem t77 : T 77 = some { k := .struct [(0, 28), (2, 9), (3, 75), (4, 26), (7, 33)], size := 15, bytes := 224, zero := [.int .i64 0, .int .i64 0, .string ⟨#[]⟩, .slice none 0 0, .int .i64 0, .string ⟨#[]⟩, .slice none 0 0, .int .i64 0, .int .i64 0, .int .i64 0, .int .i64 0, .slice none 0 0, .string ⟨#[]⟩, .slice none 0 0, .slice none 0 0] } := rfl
theorem t78 : T 78 = some { k := .func, size := 1, bytes := 8, zero := [.nilFunc] } := rfl
theorem t81 : T 81 = some { k := .struct [(0, 9), (1, 26)], size := 4, bytes := 64, zero := [.string ⟨#[]⟩, .int .i64 0, .string ⟨#[]⟩, .slice none 0 0] } := rfl
theorem t83 : T 83 = some { k := .struct [(0, 28), (2, 9), (3, 81), (7, 3), (8, 33)], size := 16, bytes := 224, zero := [.int .i64 0, .int .i64 0, .string ⟨#[]⟩, .string ⟨#[]⟩, .int .i64 0, .string ⟨#[]⟩, .slice none 0 0, .int .i64 0, .int .i64 0, .int .i64 0, .int .i64 0, .int .i64 0, .slice none 0 0, .string ⟨#[]⟩, .slice none 0 0, .slice none 0 0] } := rfl
theorem t84 : T 84 = some { k := .func, size := 1, bytes := 8, zero := [.nilFunc] } := rfl
theorem t86 : T 86 = some { k := .func, size := 1, bytes := 8, zero := [.nilFunc] } := rfl
theorem t87 : T 87 = some { k := .int .i64, size := 1, bytes := 8, zero := [.int .i64 0] } := rfl
theorem t92 : T 92 = some { k := .struct [(0, 9), (1, 24)], size := 2, bytes := 40, zero := [.string ⟨#[]⟩, .slice none 0 0] } := rfl
theorem t105 : T 105 = some { k := .func, size := 1, bytes := 8, zero := [.nilFunc] } := rfl
theorem t153 : T 153 = some { k := .struct [(0, 4), (1, 4), (2, 4), (3, 3), (4, 3), (5, 4)], size := 6, bytes := 32, zero := [.bool false, .bool false, .bool false, .int .i64 0, .int .i64 0, .bool false], eq := true } := rfl
theorem t157 : T 157 = some { k := .func, size := 1, bytes := 8, zero := [.nilFunc] } := rfl
end Go.Proofs.YtappiofmkoelnaaGreatDoor.T
end
section
namespace Go.Proofs.YtappiofmkoelnaaGreatDoorW.Ah
set_option linter.unusedVariables false
set_option linter.unusedSimpArgs false
abbrev Mm := Nat → Option Blk
def memOf (t : Nat → AV) (b : Nat) : Op → List Nat
 | .store _ a _ => (match ev t a with | .own i _ => [i] | _ => [])
 | .next a _ => (match ev t a with | .own i _ => [i] | _ => [])
 | .mapUpdate _ m _ _ | .mapEntry _ m _ | .entryStore _ m _ _ => (match ev t m with | .omap i => [i] | _ => [])
 | .call { callee := .builtin _, args, .. } => (match args.toList.map (ev t) with | .osl i _ _ _ :: _ => [i] | .omap i :: _ => [i] | _ => [])
 | .call _ => List.range b
 | _ => []
def anyOrder (T : Tab) (G : Array Oper) (cl : List Cls) : Option (Option Nat) :=
 (none :: (List.range G.size).map some).find? fun q => drawOk G cl q && lateOk T G q
def eqLeaf (T : Tab) (t : Nat) (x y : AV) : Option Bool :=
 match T t with
 | none => none
 | some i =>
  match i.k, x, y with
  | .bool, .sc (.bool a), .sc (.bool b) => some (a == b)
  | .int _, .sc (.int k a), .sc (.int k' b) => if k = k' then some (a == b) else none
  | .str, .sc (.string a), .sc (.string b) => some (a == b)
  | .slice _, .sc (.slice none 0 0), .sc (.slice none 0 0) => some true
  | .slice _, .sc (.slice none 0 0), .osl .. => some false
  | .slice _, .sc (.slice none 0 0), .esl _ => some false
  | .slice _, .sc (.slice none 0 0), .ssl _ n _ => if n = 0 then none else some false
  | .slice _, .osl .., .sc (.slice none 0 0) => some false
  | .slice _, .esl _, .sc (.slice none 0 0) => some false
  | .slice _, .ssl _ n _, .sc (.slice none 0 0) => if n = 0 then none else some false
  | .ptr _, .sc (.pointer none), .sc (.pointer none) => some true
  | .ptr _, .sc (.pointer none), .own .. => some false
  | .ptr _, .own .., .sc (.pointer none) => some false
  | .ptr _, .sc (.pointer none), .sh _ => some false
  | .ptr _, .sh _, .sc (.pointer none) => some false
  | .func, .sc .nilFunc, .sc .nilFunc => some true
  | .func, .sc .nilFunc, .fn .. => some false
  | .func, .fn .., .sc .nilFunc => some false
  | _, _, _ => none
theorem eqLeaf_ok {T : Tab} {d t : Nat} {x y : AV} {r : Bool} (h : eqLeaf T t x y = some r) : eqT T (d + 1) t x y = some r := by
 unfold eqLeaf at h
 unfold eqT
 cases ht : T t with
 | none => rw [ht] at h; cases h
 | some i =>
  rw [ht] at h
  simp only at h ⊢
  split at h <;> first | (cases h; done) | (rename_i hk; simp only [hk]; exact h) | (simp_all; done)
mutual
def eqX (T : Tab) : Nat → Nat → AV → AV → Option Bool
 | 0, _, _, _ => none
 | f + 1, t, x, y =>
  match T t with
  | none => none
  | some i =>
   match i.k, x, y with
   | .struct fs, .agg xs, .agg ys => if i.eq = true then eqXF T f fs xs ys else none
   | .arr n e, .agg xs, .agg ys => if i.eq = true then (match T e with | some j => eqXE T f e j.size (List.range' 0 n) xs ys | none => none) else none
   | _, _, _ => eqLeaf T t x y
def eqXF (T : Tab) : Nat → List (Nat × Nat) → List AV → List AV → Option Bool
 | 0, _, _, _ => none
 | _ + 1, [], _, _ => some true
 | f + 1, (off, t) :: fs, xs, ys =>
  match partOf T t xs off, partOf T t ys off with
  | some a, some b =>
   match eqX T f t a b, eqXF T f fs xs ys with
   | some r, some s => some (r && s)
   | _, _ => none
  | _, _ => none
def eqXE (T : Tab) : Nat → Nat → Nat → List Nat → List AV → List AV → Option Bool
 | 0, _, _, _, _, _ => none
 | _ + 1, _, _, [], _, _ => some true
 | f + 1, e, z, k :: ks, xs, ys =>
  match partOf T e xs (k * z), partOf T e ys (k * z) with
  | some a, some b =>
   match eqX T f e a b, eqXE T f e z ks xs ys with
   | some r, some s => some (r && s)
   | _, _ => none
  | _, _ => none
end
theorem eqX_ok {T : Tab} : ∀ f : Nat, (∀ d t x y r, f ≤ d → eqX T f t x y = some r → eqT T d t x y = some r) ∧ (∀ d fs xs ys r, f ≤ d → eqXF T f fs xs ys = some r → eqT.eqFs T d fs xs ys = some r) ∧ (∀ d e z ks xs ys r, f ≤ d → eqXE T f e z ks xs ys = some r → eqT.eqEls T d e z ks xs ys = some r)
 | 0 => ⟨fun d t x y r _ h => by simp [eqX] at h, fun d fs xs ys r _ h => by simp [eqXF] at h, fun d e z ks xs ys r _ h => by simp [eqXE] at h⟩
 | f + 1 => by
  obtain ⟨ih1, ih2, ih3⟩ := eqX_ok (T := T) f
  refine ⟨fun d t x y r hd h => ?_, fun d fs xs ys r hd h => ?_, fun d e z ks xs ys r hd h => ?_⟩
  ·obtain ⟨d, rfl⟩ : ∃ d', d = d' + 1 := ⟨d - 1, by omega⟩
   simp only [eqX] at h
   split at h
   ·cases h
   ·rename_i i ht
    split at h
    ·rename_i fs xs ys hk
     split at h
     ·rename_i he
      have := ih2 d fs xs ys r (by omega) h
      unfold eqT; rw [ht]; simp only [hk, he, if_true]; exact this
     ·cases h
    ·rename_i n e xs ys hk
     split at h
     ·rename_i he
      split at h
      ·rename_i j hj
       have := ih3 d e j.size _ xs ys r (by omega) h
       unfold eqT; rw [ht]; simp only [hk, he, if_true, hj]; exact this
      ·cases h
     ·cases h
    ·exact eqLeaf_ok h
  ·cases fs with
   | nil => simp only [eqXF] at h; cases h; simp [eqT.eqFs]
   | cons p fs =>
    obtain ⟨off, t⟩ := p
    simp only [eqXF] at h
    split at h
    ·rename_i a b ha hb
     split at h
     ·rename_i r1 r2 h1 h2
      cases h
      simp only [eqT.eqFs, ha, hb, ih1 d _ _ _ _ (by omega) h1, ih2 d _ _ _ _ (by omega) h2]
     ·cases h
    ·cases h
  ·cases ks with
   | nil => simp only [eqXE] at h; cases h; simp [eqT.eqEls]
   | cons k ks =>
    simp only [eqXE] at h
    split at h
    ·rename_i a b ha hb
     split at h
     ·rename_i r1 r2 h1 h2
      cases h
      simp only [eqT.eqEls, ha, hb, ih1 d _ _ _ _ (by omega) h1, ih3 d _ _ _ _ _ _ (by omega) h2]
     ·cases h
    ·cases h
def isNum : AV → Bool
 | .sc (.int _ _) => true
 | .sc (.string _) => true
 | _ => false
def binX (T : Tab) (op : BinOp) (t : Nat) (x y : AV) : Option AV :=
 match op with
 | .eql => if (isNum x && isNum y) = true then binAV T .eql t x y else (eqX T 200 t x y).map fun b => .sc (.bool b)
 | .neq => if (isNum x && isNum y) = true then binAV T .neq t x y else (eqX T 200 t x y).map fun b => .sc (.bool !b)
 | op => binAV T op t x y
theorem maxDepth_ge : 200 ≤ Op.maxDepth := by decide
theorem binX_ok {T : Tab} {op : BinOp} {t : Nat} {x y v : AV} (h : binX T op t x y = some v) : binAV T op t x y = some v := by
 unfold binX at h
 split at h
 ·split at h
  ·exact h
  ·rename_i hn
   simp only [Option.map_eq_some_iff] at h
   obtain ⟨b, hb, rfl⟩ := h
   have := (eqX_ok (T := T) 200).1 Op.maxDepth t x y b maxDepth_ge hb
   unfold binAV
   split <;> first | (simp [isNum] at hn; done) | simp_all
 ·split at h
  ·exact h
  ·rename_i hn
   simp only [Option.map_eq_some_iff] at h
   obtain ⟨b, hb, rfl⟩ := h
   have := (eqX_ok (T := T) 200).1 Op.maxDepth t x y b maxDepth_ge hb
   unfold binAV
   split <;> first | (simp [isNum] at hn; done) | simp_all
 ·exact h
def vopX (T : Tab) (t : Nat → AV) (H : Mm) : Op → Option AV
 | .binOp op ty x y _ => binX T op ty (ev t x) (ev t y)
 | op => vop T t H op
theorem vopX_ok {T : Tab} {t : Nat → AV} {H : Mm} {op : Op} {v : AV} (h : vopX T t H op = some v) : vop T t H op = some v := by
 unfold vopX at h
 split at h
 ·simp only [vop]; exact binX_ok h
 ·exact h
mutual
def viewE (H : Mm) : Nat → AV → Option (AV × List Nat)
 | 0, _ => none
 | f + 1, a =>
  if free a = true then some (a, []) else
  match a with
  | .own i o =>
   match H i with
   | some (.cells cs _) =>
    match viewEL H f (cs.drop o) with
    | some (cs', ids) => some (.sh cs', i :: ids)
    | none => none
   | _ => none
  | .osl i o n c =>
   match H i with
   | some (.cells cs _) =>
    match viewEL H f ((cs.drop o).take cs.length) with
    | some (cs', ids) => some (.ssl cs' n (c == some n), i :: ids)
    | none => none
   | _ => none
  | .agg cs =>
   match viewEL H f cs with
   | some (cs', ids) => some (.agg cs', ids)
   | none => none
  | .tup cs =>
   match viewEL H f cs with
   | some (cs', ids) => some (.tup cs', ids)
   | none => none
  | .fn g x y =>
   match viewEL H f x, viewEL H f y with
   | some (x', i1), some (y', i2) => some (.fn g x' y', i1 ++ i2)
   | _, _ => none
  | _ => none
def viewEL (H : Mm) : Nat → List AV → Option (List AV × List Nat)
 | 0, _ => none
 | _ + 1, [] => some ([], [])
 | f + 1, a :: as' =>
  if freeL (a :: as') = true then some (a :: as', []) else
  match viewE H f a, viewEL H f as' with
  | some (a', i1), some (as'', i2) => some (a' :: as'', i1 ++ i2)
  | _, _ => none
end
theorem view_e {T : Tab} {H : Mm} : ∀ f : Nat, (∀ a a' ids, viewE H f a = some (a', ids) → ∀ js : List Nat, (∀ i ∈ ids, i ∈ js) → View T H js a a') ∧ (∀ as' as'' ids, viewEL H f as' = some (as'', ids) → ∀ js : List Nat, (∀ i ∈ ids, i ∈ js) → ViewL T H js as' as'')
 | 0 => ⟨fun a a' ids h => by simp [viewE] at h, fun as' as'' ids h => by simp [viewEL] at h⟩
 | f + 1 => by
  obtain ⟨ih1, ih2⟩ := view_e (T := T) (H := H) f
  constructor
  ·intro a a' ids h js hj
   simp only [viewE] at h
   split at h
   ·rename_i hf; cases h; exact .free hf
   ·split at h
    ·split at h
     ·rename_i hi
      split at h
      ·rename_i hv; cases h; exact .own (hj _ (by simp)) hi (ih2 _ _ _ hv js fun i hi => hj i (by simp [hi]))
      ·cases h
     ·cases h
    ·split at h
     ·rename_i hi
      split at h
      ·rename_i hv; cases h; exact .osl _ (hj _ (by simp)) hi (ih2 _ _ _ hv js fun i hi => hj i (by simp [hi]))
      ·cases h
     ·cases h
    ·split at h
     ·rename_i hv; cases h; exact .agg (ih2 _ _ _ hv js hj)
     ·cases h
    ·split at h
     ·rename_i hv; cases h; exact .tup (ih2 _ _ _ hv js hj)
     ·cases h
    ·split at h
     ·rename_i h1 h2; cases h
      exact .fn (ih2 _ _ _ h1 js fun i hi => hj i (by simp [hi])) (ih2 _ _ _ h2 js fun i hi => hj i (by simp [hi]))
     ·cases h
    ·cases h
  ·intro as' as'' ids h js hj
   cases as' with
   | nil => simp only [viewEL] at h; cases h; exact .nil
   | cons a as' =>
    simp only [viewEL] at h
    split at h
    ·rename_i hf; cases h; exact .free hf
    split at h
    ·rename_i h1 h2; cases h
     exact .cons (ih1 _ _ _ h1 js fun i hi => hj i (by simp [hi])) (ih2 _ _ _ h2 js fun i hi => hj i (by simp [hi]))
    ·cases h
section
variable (P : Program) (T : Tab)
mutual
def xCode : Nat → Nat → Code → St → Option (St × Ex)
 | 0, _, _, _ => none
 | f + 1, k, c, s =>
  match c with
  | .skip => some (s, .normal)
  | .label _ => some (s, .normal)
  | .exit id => some (s, .exit id)
  | .goto l => some (s, .goto l)
  | .ret => some (s, .ret)
  | .seq a b =>
   match xCode f k a s with
   | some (s1, .normal) => xCode f k b s1
   | r => r
  | .cond c a b =>
   match ev s.t c with
   | .sc (.bool true) => xCode f k a s
   | .sc (.bool false) => xCode f k b s
   | _ => none
  | .block id a =>
   match xCode f k a s with
   | some (s1, .exit j) => if j = id then some (s1, .normal) else some (s1, .exit j)
   | r => r
  | .loop a => xLoop f k a s
  | .scope a => xScope f k a a s
  | .region _ ops false =>
   match xOps f k ops ops.toList s with
   | some s1 => some (s1, .normal)
   | none => none
  | .region _ ops true =>
   if P.follows .mixedOrders = true then
    match xOpsD f k ops (List.range ops.size) s.n [] s with
    | some (s1, cl) =>
     match anyOrder T ops cl with
     | some _ => some (s1, .normal)
     | none => none
    | none => none
   else none
  | .rangeFunc g ps asg bod =>
   match ev s.t g with
   | .fn (.func g) first caps =>
    match xRun f g (first ++ [.yld s.n] ++ caps) (upd s.H s.n (some (.loop s.t k ps asg bod .ready))) (s.n + 1) with
    | some (_, H', n') =>
     match H' s.n with
     | some (.loop _ _ _ _ _ .ready) => some (⟨s.t, upd H' s.n none, n'⟩, .normal)
     | some (.loop _ _ _ _ _ (.done c)) => xCode f k c ⟨s.t, upd H' s.n none, n'⟩
     | _ => none
    | none => none
   | _ => none
  | _ => none
def xLoop : Nat → Nat → Code → St → Option (St × Ex)
 | 0, _, _, _ => none
 | f + 1, k, c, s =>
  match xCode f k c s with
  | some (s1, .normal) => xLoop f k c s1
  | r => r
def xScope : Nat → Nat → Code → Code → St → Option (St × Ex)
 | 0, _, _, _, _ => none
 | f + 1, k, b, c, s =>
  match xCode f k c s with
  | some (s1, .goto l) =>
   match findLabel b l with
   | some rest => xScope f k b rest s1
   | none => none
  | r => r
def xOps : Nat → Nat → Array Oper → List Oper → St → Option St
 | 0, _, _, _, _ => none
 | f + 1, k, G, l, s =>
  match l with
  | [] => some s
  | o :: l =>
   if dstOk k o = true then
    match wantedA G o s.t with
    | some true =>
     match xDoes f o s.t s.H s.n with
     | some (v, H', n', _) => xOps f k G l ⟨putA s.t o.dst v, H', n'⟩
     | none => none
    | some false => xOps f k G l ⟨putA s.t o.dst (.tup []), s.H, s.n⟩
    | none => none
   else none
def xOpsD : Nat → Nat → Array Oper → List Nat → Nat → List Cls → St → Option (St × List Cls)
 | 0, _, _, _, _, _, _ => none
 | f + 1, k, G, l, b, cl, s =>
  match l with
  | [] => some (s, cl)
  | i :: l =>
   match G[i]? with
   | some o =>
    if dstOk k o = true ∧ i = cl.length ∧ b ≤ s.n then
     match wantedA G o s.t with
     | some true =>
      match xDoes f o s.t s.H s.n with
      | some (v, H', n', some R) => xOpsD f k G l b (cl ++ [.rd R]) ⟨putA s.t o.dst v, s.H, s.n⟩
      | some (v, H', n', none) => xOpsD f k G l b (cl ++ [.mem (memOf s.t b o.op) b]) ⟨putA s.t o.dst v, H', n'⟩
      | none => none
     | some false => xOpsD f k G l b (cl ++ [.rd []]) ⟨putA s.t o.dst (.tup []), s.H, s.n⟩
     | none => none
    else none
   | none => none
def xDoes : Nat → Oper → (Nat → AV) → Mm → Nat → Option (AV × Mm × Nat × Option (List Nat))
 | 0, _, _, _, _ => none
 | f + 1, o, t, H, n =>
  match vopX T t H o.op with
  | some v => some (v, H, n, some (readsOf t o.op))
  | none =>
   match mop T t H n o.op with
   | some (v, H', n') => some (v, H', n', none)
   | none =>
    match o.op with
    | .call c =>
     match c.callee with
     | .value fv =>
      match ev t fv with
      | .fn (.func g) first caps =>
       if freeL (first ++ c.args.toList.map (ev t) ++ caps) = true then
        match xRun f g (first ++ c.args.toList.map (ev t) ++ caps) (fun _ => none) 0 with
        | some (v, _, _) => if free v = true then some (v, H, n, some []) else
         match xRun f g (first ++ c.args.toList.map (ev t) ++ caps) H n with
         | some (v, H', n') => some (v, H', n', none)
         | none => none
        | none => none
       else
        match (match viewEL H 400 (first ++ c.args.toList.map (ev t) ++ caps) with
         | some (args', ids) =>
          (match xRun f g args' (fun _ => none) 0 with
          | some (v, _, _) => if flat v = true then some (v, ids) else none
          | none => none)
         | none => none) with
        | some (v, ids) => some (v, H, n, some ids)
        | none =>
         match xRun f g (first ++ c.args.toList.map (ev t) ++ caps) H n with
         | some (v, H', n') => some (v, H', n', none)
         | none => none
      | .yld i =>
       match H i with
       | some (.loop t0 k ps asg bod .ready) =>
        if ps.size = c.args.size ∧ ps.toList.all (fun p => decide (p < k)) = true then
         match xCode f k asg ⟨fillT t0 (ps.toList.zip (c.args.toList.map (ev t))), H, n⟩ with
         | some (s1, .normal) =>
          match s1.H i with
          | some (.loop t1 k1 ps1 asg1 bod1 .ready) =>
           match xCode f k bod ⟨s1.t, upd s1.H i (some (.loop t1 k1 ps1 asg1 bod1 .busy)), s1.n⟩ with
           | some (s2, e) =>
            match s2.H i with
            | some (.loop t2 k2 ps2 asg2 bod2 .busy) => some (B (e == .normal), upd s2.H i (some (.loop t2 k2 ps2 asg2 bod2 e.stt)), s2.n, none)
            | _ => none
           | none => none
          | _ => none
         | _ => none
        else none
       | _ => none
      | _ => none
     | _ => none
    | _ => none
def xRun : Nat → FuncId → List AV → Mm → Nat → Option (AV × Mm × Nat)
 | 0, _, _, _, _ => none
 | f + 1, g, args, H, n =>
  match P.funcs[g]? with
  | some fn =>
   match fn.body with
   | some c =>
    if (fn.name == "runtime.NumGoroutine") = false ∧ args.length ≤ fn.ntmps then
     match xCode f fn.ntmps c ⟨initT args, H, n⟩ with
     | some (s', .ret) =>
      match resOf T fn.results.toList s' with
      | some r => some (r, s'.H, s'.n)
      | none => none
     | some (s', .normal) =>
      match resOf T fn.results.toList s' with
      | some r => some (r, s'.H, s'.n)
      | none => none
     | _ => none
    else none
   | none => none
  | none => none
end
end
section
variable {P : Program} {T : Tab}
theorem mop_keeps {t : Nat → AV} {H H' : Mm} {n n' b : Nat} {v : AV} {op : Op} (h : mop T t H n op = some (v, H', n')) (hb : b ≤ n) : ∀ j, j < b → j ∉ memOf t b op → H' j = H j := by
 intro j hj hm
 cases op with
 | call c =>
  obtain ⟨callee, args, ats⟩ := c
  cases callee with
  | builtin bi =>
   cases bi with
   | append =>
    simp only [mop] at h
    simp only [memOf] at hm
    split at h
    case h_2 => cases h
    case h_1 x y st yt e1 e2 =>
     rw [e1] at hm
     have fin : appendAV T H n st x y = some (v, H', n') → H' j = H j := by
      intro h
      unfold appendAV at h
      repeat' split at h
      all_goals first
       | (cases h; done)
       | (simp only [Option.some.injEq, Prod.mk.injEq] at h; obtain ⟨_, rfl, _⟩ := h)
      all_goals first
       | rfl
       | (simp only [List.mem_singleton] at hm; rw [upd_ne _ _ hm]; done)
       | (rw [upd_ne _ _ (by omega)]; done)
       | (simp only [List.mem_singleton] at hm; rw [upd_ne _ _ (by omega), upd_ne _ _ hm]; done)
     split at h
     case h_2 => cases h
     case h_1 =>
      split at h
      ·exact fin h
      ·exact fin h
      ·cases h
   | copy =>
    simp only [mop] at h
    simp only [memOf] at hm
    split at h
    case h_2 => cases h
    case h_1 x y st e1 e2 =>
     rw [e1] at hm
     repeat' split at h
     all_goals first
      | (cases h; done)
      | (simp only [Option.some.injEq, Prod.mk.injEq] at h; obtain ⟨_, rfl, _⟩ := h)
     all_goals first
      | rfl
      | (simp only [List.mem_singleton] at hm; rw [upd_ne _ _ hm]; done)
   | clear =>
    simp only [mop] at h
    simp only [memOf] at hm
    split at h
    case h_2 => cases h
    case h_1 i' o' m c st e1 e2 =>
     rw [e1] at hm
     repeat' split at h
     all_goals first
      | (cases h; done)
      | (simp only [Option.some.injEq, Prod.mk.injEq] at h; obtain ⟨_, rfl, _⟩ := h)
     all_goals first
      | rfl
      | (simp only [List.mem_singleton] at hm; rw [upd_ne _ _ hm]; done)
   | delete =>
    simp only [mop] at h
    simp only [memOf] at hm
    split at h
    case h_2 => cases h
    case h_1 i v' mt rest e1 e2 =>
     rw [e1] at hm
     repeat' split at h
     all_goals first
      | (cases h; done)
      | (simp only [Option.some.injEq, Prod.mk.injEq] at h; obtain ⟨_, rfl, _⟩ := h)
     all_goals (simp only [List.mem_singleton] at hm; rw [upd_ne _ _ hm])
   | _ => simp [mop] at h
  | _ => simp [mop] at h
 | makeMap mt x =>
  cases x with
  | some x => simp [mop] at h
  | none => simp only [mop] at h; cases h; rw [upd_ne _ _ (by omega)]
 | next x q =>
  cases q with
  | false => simp [mop] at h
  | true =>
   simp only [mop] at h
   simp only [memOf] at hm
   repeat' split at h
   all_goals first
    | (cases h; done)
    | (simp only [Option.some.injEq, Prod.mk.injEq] at h; obtain ⟨_, rfl, _⟩ := h)
   all_goals first
    | rfl
    | (simp only [*, List.mem_singleton] at hm; rw [upd_ne _ _ hm]; done)
 | _ =>
  simp only [mop] at h
  simp only [memOf] at hm
  repeat' split at h
  all_goals first
   | (cases h; done)
   | (simp only [Option.some.injEq, Prod.mk.injEq] at h; obtain ⟨_, rfl, _⟩ := h)
  all_goals first
   | rfl
   | (rw [upd_ne _ _ (by omega)]; done)
   | (simp only [*, List.mem_singleton] at hm; rw [upd_ne _ _ hm]; done)
theorem any_ok {G : Array Oper} {cl : List Cls} {q : Option Nat} (h : anyOrder T G cl = some q) : drawOk G cl q = true ∧ lateOk T G q = true := by
 have := List.find?_some h
 simpa using this
structure XOk (P : Program) (T : Tab) (f : Nat) : Prop where
 code : ∀ {k c s s' e}, xCode P T f k c s = some (s', e) → Ev P T k c s e s'
 loop : ∀ {k c s s' e}, xLoop P T f k c s = some (s', e) → EvLoop P T k c s e s'
 scope : ∀ {k b c s s' e}, xScope P T f k b c s = some (s', e) → EvScope P T k b c s e s'
 ops : ∀ {k G l s s'}, xOps P T f k G l s = some s' → EvL P T k G l s s'
 opsD : ∀ {k G l b cl s s' cl'}, xOpsD P T f k G l b cl s = some (s', cl') → (∃ m, cl' = cl ++ m) ∧ EvD P T k G cl' l s s'
 does : ∀ {o t H n v H' n' R}, xDoes P T f o t H n = some (v, H', n', R) → (∀ R', R = some R' → DoesR P T o t H v R' ∧ H' = H ∧ n' = n) ∧ Does P T o t H n v H' n' ∧ (R = none → ∀ b, b ≤ n → ∀ j, j < b → j ∉ memOf t b o.op → H' j = H j)
 run : ∀ {g args H n v H' n'}, xRun P T f g args H n = some (v, H', n') → Run P T g args H n v H' n'
theorem x_ok : ∀ f, XOk P T f
 | 0 => by
  constructor
  ·intro k c s s' e h; simp [xCode] at h
  ·intro k c s s' e h; simp [xLoop] at h
  ·intro k b c s s' e h; simp [xScope] at h
  ·intro k G l s s' h; simp [xOps] at h
  ·intro k G l b cl s s' cl' h; simp [xOpsD] at h
  ·intro o t H n v H' n' R h; simp [xDoes] at h
  ·intro g args H n v H' n' h; simp [xRun] at h
 | f + 1 => by
  have ih := x_ok f
  constructor
  ·intro k c s s' e h
   cases c with
   | skip => simp only [xCode] at h; cases h; exact .skip
   | label => simp only [xCode] at h; cases h; exact .label
   | exit => simp only [xCode] at h; cases h; exact .exit
   | goto => simp only [xCode] at h; cases h; exact .goto
   | ret => simp only [xCode] at h; cases h; exact .ret
   | refuse => simp [xCode] at h
   | seq a b =>
    simp only [xCode] at h
    split at h
    ·rename_i s1 h1; exact .seqN (ih.code h1) (ih.code h)
    ·rename_i r hn
     exact .seqX (ih.code h) (fun e' => by subst e'; exact hn _ h)
   | cond c a b =>
    simp only [xCode] at h
    split at h
    ·rename_i hc; exact .condT hc (ih.code h)
    ·rename_i hc; exact .condF hc (ih.code h)
    ·cases h
   | block id a =>
    simp only [xCode] at h
    split at h
    ·rename_i s1 j h1
     split at h
     ·rename_i e'; subst e'; cases h; exact .blockX (ih.code h1)
     ·rename_i e'; cases h; exact .blockN (ih.code h1) (fun e2 => e' (by cases e2; rfl))
    ·rename_i hn
     exact .blockN (ih.code h) (fun e' => by subst e'; exact hn _ _ h)
   | loop a => simp only [xCode] at h; exact .loop (ih.loop h)
   | scope a => simp only [xCode] at h; exact .scope (ih.scope h)
   | region id ops d =>
    cases d with
    | false =>
     simp only [xCode] at h
     split at h
     ·rename_i s1 h1; cases h; exact .region (ih.ops h1)
     ·cases h
    | true =>
     simp only [xCode] at h
     split at h
     case isFalse => cases h
     case isTrue hm =>
      split at h
      case h_2 => cases h
      case h_1 s1 cl h1 =>
       split at h
       case h_2 => cases h
       case h_1 q hq =>
        cases h
        exact .regionD cl q hm (any_ok hq).1 (any_ok hq).2 (ih.opsD h1).2
   | rangeFunc g ps asg bod =>
    simp only [xCode] at h
    split at h
    case h_2 => cases h
    case h_1 g first caps hg =>
     split at h
     case h_2 => cases h
     case h_1 r H' n' h1 =>
      split at h
      ·rename_i h2; cases h; exact .rangeN hg (ih.run h1) h2
      ·rename_i h2; exact .rangeJ hg (ih.run h1) h2 (ih.code h)
      ·cases h
  ·intro k c s s' e h
   simp only [xLoop] at h
   split at h
   ·rename_i s1 h1; exact .more (ih.code h1) (ih.loop h)
   ·rename_i hn; exact .done (ih.code h) (fun e' => by subst e'; exact hn _ h)
  ·intro k b c s s' e h
   simp only [xScope] at h
   split at h
   ·rename_i s1 l h1
    split at h
    ·rename_i rest hl; exact .jump (ih.code h1) hl (ih.scope h)
    ·cases h
   ·rename_i hn; exact .straight (ih.code h) (fun l e' => by subst e'; exact hn _ _ h)
  ·intro k G l s s' h
   cases l with
   | nil => simp only [xOps] at h; cases h; exact .nil
   | cons o l =>
    simp only [xOps] at h
    split at h
    case isFalse => cases h
    case isTrue hd =>
     split at h
     ·rename_i hw
      split at h
      ·rename_i h1; exact .op hw hd (ih.does h1).2.1 (ih.ops h)
      ·cases h
     ·rename_i hw; exact .skip hw hd (ih.ops h)
     ·cases h
  ·intro k G l b cl s s' cl' h
   cases l with
   | nil => simp only [xOpsD] at h; cases h; exact ⟨⟨[], by simp⟩, .nil⟩
   | cons i l =>
    simp only [xOpsD] at h
    split at h
    case h_2 => cases h
    case h_1 o ho =>
     split at h
     case isFalse => cases h
     case isTrue hd =>
      obtain ⟨hd, hi, hbn⟩ := hd
      have at_ : ∀ {x : Cls}, (∃ m, cl' = cl ++ [x] ++ m) → (∃ m, cl' = cl ++ m) ∧ cl'[i]? = some x := by
       rintro x ⟨m, rfl⟩
       exact ⟨⟨[x] ++ m, by simp⟩, by rw [hi]; simp⟩
      split at h
      ·rename_i hw
       split at h
       ·rename_i v H' n' R h1
        obtain ⟨h2, h3⟩ := ih.opsD h
        obtain ⟨h4, h5⟩ := at_ h2
        obtain ⟨h6, rfl, rfl⟩ := (ih.does h1).1 R rfl
        exact ⟨h4, .rd ho hw hd h6 h5 (fun _ h => h) h3⟩
       ·rename_i v H' n' h1
        obtain ⟨h2, h3⟩ := ih.opsD h
        obtain ⟨h4, h5⟩ := at_ h2
        exact ⟨h4, .mem ho hw hd (ih.does h1).2.1 h5 ((ih.does h1).2.2 rfl b hbn) h3⟩
       ·cases h
      ·rename_i hw
       obtain ⟨h2, h3⟩ := ih.opsD h
       exact ⟨(at_ h2).1, .skip ho hw hd h3⟩
      ·cases h
  ·intro o t H n v H' n' R h
   simp only [xDoes] at h
   split at h
   ·rename_i v' hv
    have hv := vopX_ok hv
    cases h
    exact ⟨fun R' e => (by cases e; exact ⟨.vop hv, rfl, rfl⟩), .vop hv, fun e => (by cases e)⟩
   ·split at h
    ·rename_i hm
     cases h
     exact ⟨fun R' e => (by cases e), .mop hm, fun _ b hb => mop_keeps hm hb⟩
    ·split at h
     case h_2 => cases h
     case h_1 c ho =>
      split at h
      case h_2 => cases h
      case h_1 fv hc =>
       have hmem : ∀ b, memOf t b o.op = List.range b := by
        intro b; rw [ho]; obtain ⟨callee, args, ats⟩ := c; simp only at hc; subst hc; rfl
       have vac : ∀ (H' : Mm) b, b ≤ n → ∀ j, j < b → j ∉ memOf t b o.op → H' j = H j := by
        intro H' b _ j hj hn; rw [hmem] at hn; simp at hn; omega
       split at h
       ·rename_i g first caps hf
        have callS : ∀ {v H' n'}, xRun P T f g (first ++ c.args.toList.map (ev t) ++ caps) H n = some (v, H', n') → Does P T o t H n v H' n' := fun h => .callS ho hc hf (ih.run h)
        split at h
        ·rename_i hfr
         split at h
         ·rename_i v1 H1 n1 h1
          split at h
          ·rename_i hv
           cases h
           exact ⟨fun R' e => (by cases e; exact ⟨.callF ho hc hf hfr (ih.run h1) hv, rfl, rfl⟩), .callF ho hc hf hfr (ih.run h1) hv, fun e => (by cases e)⟩
          ·split at h
           ·rename_i h2; cases h; exact ⟨fun R' e => (by cases e), callS h2, fun _ => vac _⟩
           ·cases h
         ·cases h
        ·split at h
         ·rename_i v1 ids1 h1
          cases h
          split at h1
          ·rename_i args' ids' hv
           split at h1
           ·rename_i v2 H2 n2 hr
            split at h1
            ·rename_i hfl
             cases h1
             have hvw := (view_e (T := T) 400).2 _ _ _ hv ids1 fun _ h => h
             exact ⟨fun R' e => (by cases e; exact ⟨.callB ids1 ho hc hf hvw (ih.run hr) (.inr hfl), rfl, rfl⟩), .callB ids1 ho hc hf hvw (ih.run hr) (.inr hfl), fun e => (by cases e)⟩
            ·cases h1
           ·cases h1
          ·cases h1
         ·split at h
          ·rename_i h2; cases h; exact ⟨fun R' e => (by cases e), callS h2, fun _ => vac _⟩
          ·cases h
       ·rename_i i hf
        split at h
        case h_2 => cases h
        case h_1 t0 k ps asg bod hi =>
         split at h
         case isFalse => cases h
         case isTrue hps =>
          split at h
          case h_2 => cases h
          case h_1 s1 h1 =>
           split at h
           case h_2 => cases h
           case h_1 hi1 =>
            split at h
            case h_2 => cases h
            case h_1 s2 e h2 =>
             split at h
             case h_2 => cases h
             case h_1 hi2 =>
              cases h
              exact ⟨fun R' e => (by cases e), .round ho hc hf hi hps.1 hps.2 (ih.code h1) hi1 (ih.code h2) hi2, fun _ => vac _⟩
       ·cases h
  ·intro g args H n v H' n' h
   simp only [xRun] at h
   split at h
   case h_2 => cases h
   case h_1 fn hfn =>
    split at h
    case h_2 => cases h
    case h_1 c hb =>
     split at h
     case isFalse => cases h
     case isTrue hc =>
      split at h
      ·rename_i s1 h1
       split at h
       ·rename_i hr; cases h; exact .mk hfn hb hc.1 hc.2 (ih.code h1) (.inl rfl) hr
       ·cases h
      ·rename_i s1 h1
       split at h
       ·rename_i hr; cases h; exact .mk hfn hb hc.1 hc.2 (ih.code h1) (.inr rfl) hr
       ·cases h
      ·cases h
def xBool (P : Program) (T : Tab) (F : Nat) (f : FuncId) (b : Bool) : Bool :=
 match xRun P T F f [] (fun _ => none) 0 with
 | some (.sc (.bool x), _, _) => x == b
 | _ => false
theorem RunF.x (F : Nat) {f : FuncId} {b : Bool} (h : xBool P T F f b = true) : RunF P T f [] (B b) := by
 unfold xBool at h
 split at h
 ·rename_i x H' n' h1
  simp only [beq_iff_eq] at h
  subst h
  exact ⟨H', n', (x_ok F).run h1⟩
 ·cases h
end
theorem OwnC.take {α : Type} {H : Mem} {ty z : Nat} {e : α → List AV} {o c : Option Nat} {xs : List α} (h : OwnC H ty z e o c xs) (m : Nat) : OwnC H ty z e o c (xs.take m) := by
 cases o with
 | none => have : xs = [] := h; subst this; simp [OwnC]
 | some i =>
  obtain ⟨ys, h1, h2⟩ := h
  have e1 : encs e xs = encs e (xs.take m) ++ encs e (xs.drop m) := by rw [← encs_append, List.take_append_drop]
  refine ⟨encs e (xs.drop m) ++ ys, by rw [h1, e1, List.append_assoc], fun k hk => ?_⟩
  obtain ⟨g1, g2⟩ := h2 k hk
  refine ⟨by rw [List.length_take]; omega, ?_⟩
  rw [e1, List.append_assoc] at g2
  exact g2
theorem u8s_encs {c : Int → List AV} (hc : ∀ x, c x = [.sc (.int .u8 x)]) : ∀ xs : List Int, u8s (encs c xs) = some xs
 | [] => rfl
 | x :: xs => by
  rw [encs_cons, hc]
  show u8s (.sc (.int .u8 x) :: encs c xs) = _
  rw [u8s, u8s_encs hc xs]; rfl
theorem vop_text {T : Tab} {t : Nat → AV} {H : Mem} {s d e : Nat} {i j : TI} {c : Int → List AV} (hc : ∀ x, c x = [.sc (.int .u8 x)]) (hs : T s = some i) (hk : i.k = .slice e) (hd : T d = some j) (hkd : j.k = .str) (h8 : isU8 T e = true) {x : Operand} {xs : List Int} {f : Bool} (hx : ev t x = .ssl (encs c xs) xs.length f) : vop T t H (.convert s d x) = some (.sc (.string (textOf xs))) := by
 have key : ∀ l : List Int, (encs c l).length = l.length := fun l => by
  induction l with
  | nil => rfl
  | cons y ys ih => rw [encs_cons, hc, List.length_append, ih]; simp; omega
 simp only [vop, convAV, hs, hd, hk, hkd, hx]
 rw [List.take_of_length_le (by rw [key]; exact Nat.le_refl _), u8s_encs hc]
 simp [h8]
end Go.Proofs.YtappiofmkoelnaaGreatDoorW.Ah
end
section
namespace Go.Proofs.YtappiofmkoelnaaGreatDoor.M
open Go.Proofs.YtappiofmkoelnaaGreatDoorW.Ah Go.Proofs.YtappiofmkoelnaaGreatDoor
set_option linter.unusedVariables false
set_option linter.unusedSimpArgs false
set_option maxRecDepth 8000
abbrev c3 : Int → List AV := fun x => [.sc (.int .i64 x)]
instance : Enc c3 1 := ⟨fun _ => rfl⟩
theorem ok3 (x : Int) : (c3 x).all cellOk = true := rfl
theorem fr3 (x : Int) : freeL (c3 x) = true := rfl
structure APos where
 Line : Int
 Col : Int
def c28 (x : APos) : List AV := c3 x.Line ++ (c3 x.Col)
instance : Enc c28 2 := ⟨fun x => by simp only [c28, List.length_append, Enc.len (e := c3)]⟩
theorem len28 (x : APos) : (c28 x).length = 2 := Enc.len (e := c28) x
theorem ok28 (x : APos) : (c28 x).all cellOk = true := by simp only [c28, List.all_append, ok3] <;> rfl
theorem fr28 (x : APos) : freeL (c28 x) = true := by simp only [c28, freeL_append, fr3] <;> rfl
abbrev c9 : ByteArray → List AV := fun x => [.sc (.string x)]
instance : Enc c9 1 := ⟨fun _ => rfl⟩
theorem ok9 (x : ByteArray) : (c9 x).all cellOk = true := rfl
theorem fr9 (x : ByteArray) : freeL (c9 x) = true := rfl
structure AType where
 Kind : Int
 Name : ByteArray
 Parts : (List AType)
mutual
def c26 : AType → List AV
 | ⟨x0, x1, x2⟩ => c3 x0 ++ (c9 x1 ++ ([.ssl (l26 x2) x2.length false]))
def l26 : List AType → List AV
 | [] => []
 | x :: xs => c26 x ++ l26 xs
end
theorem l26_eq : ∀ xs : List AType, l26 xs = encs c26 xs
 | [] => by rw [l26, encs_nil]
 | x :: xs => by rw [l26, encs_cons, l26_eq xs]
abbrev c24 : (List AType) → List AV := fun x => [.ssl (encs c26 x) x.length false]
instance : Enc c24 1 := ⟨fun _ => rfl⟩
theorem ok24 (x : (List AType)) : (c24 x).all cellOk = true := rfl
theorem u26 (x : AType) : c26 x = c3 x.Kind ++ (c9 x.Name ++ (c24 x.Parts)) := by
 cases x; simp only [c26, l26_eq]
instance : Enc c26 3 := ⟨fun x => by rw [u26]; simp only [List.length_append, Enc.len (e := c3), Enc.len (e := c9), Enc.len (e := c24)]⟩
theorem len26 (x : AType) : (c26 x).length = 3 := Enc.len (e := c26) x
theorem ok26 (x : AType) : (c26 x).all cellOk = true := by rw [u26]; simp only [List.all_append, ok3, ok9, ok24]; rfl
mutual
theorem fr26 : ∀ x : AType, freeL (c26 x) = true
 | ⟨x0, x1, x2⟩ => by rw [c26]; simp only [freeL_append, fr3, fr9]; simp [freeL, free, fl26 x2]
theorem fl26 : ∀ xs : List AType, freeL (l26 xs) = true
 | [] => by rw [l26]; rfl
 | x :: xs => by rw [l26, freeL_append, fr26 x, fl26 xs]; rfl
end
theorem fr24 (x : (List AType)) : freeL (c24 x) = true := by simp [freeL, free, freeL_encs fr26]
structure ACon where
 Name : ByteArray
 Fields : (List AType)
def c92 (x : ACon) : List AV := c9 x.Name ++ (c24 x.Fields)
instance : Enc c92 2 := ⟨fun x => by simp only [c92, List.length_append, Enc.len (e := c9), Enc.len (e := c24)]⟩
theorem len92 (x : ACon) : (c92 x).length = 2 := Enc.len (e := c92) x
theorem ok92 (x : ACon) : (c92 x).all cellOk = true := by simp only [c92, List.all_append, ok9, ok24] <;> rfl
theorem fr92 (x : ACon) : freeL (c92 x) = true := by simp only [c92, freeL_append, fr9, fr24] <;> rfl
abbrev c70 : (List ACon) → List AV := fun x => [.ssl (encs c92 x) x.length false]
instance : Enc c70 1 := ⟨fun _ => rfl⟩
theorem ok70 (x : (List ACon)) : (c70 x).all cellOk = true := rfl
theorem fr70 (x : (List ACon)) : freeL (c70 x) = true := by simp [freeL, free, freeL_encs fr92]
structure AData where
 At : APos
 Name : ByteArray
 Cons : (List ACon)
def c72 (x : AData) : List AV := c28 x.At ++ (c9 x.Name ++ (c70 x.Cons))
instance : Enc c72 4 := ⟨fun x => by simp only [c72, List.length_append, Enc.len (e := c9), Enc.len (e := c28), Enc.len (e := c70)]⟩
theorem len72 (x : AData) : (c72 x).length = 4 := Enc.len (e := c72) x
theorem ok72 (x : AData) : (c72 x).all cellOk = true := by simp only [c72, List.all_append, ok9, ok28, ok70] <;> rfl
theorem fr72 (x : AData) : freeL (c72 x) = true := by simp only [c72, freeL_append, fr9, fr28, fr70] <;> rfl
abbrev c22 : (List AData) → List AV := fun x => [.ssl (encs c72 x) x.length false]
instance : Enc c22 1 := ⟨fun _ => rfl⟩
theorem ok22 (x : (List AData)) : (c22 x).all cellOk = true := rfl
theorem fr22 (x : (List AData)) : freeL (c22 x) = true := by simp [freeL, free, freeL_encs fr72]
structure AParam where
 Name : ByteArray
 Type_ : AType
def c81 (x : AParam) : List AV := c9 x.Name ++ (c26 x.Type_)
instance : Enc c81 4 := ⟨fun x => by simp only [c81, List.length_append, Enc.len (e := c9), Enc.len (e := c26)]⟩
theorem len81 (x : AParam) : (c81 x).length = 4 := Enc.len (e := c81) x
theorem ok81 (x : AParam) : (c81 x).all cellOk = true := by simp only [c81, List.all_append, ok9, ok26] <;> rfl
theorem fr81 (x : AParam) : freeL (c81 x) = true := by simp only [c81, freeL_append, fr9, fr26] <;> rfl
abbrev c75 : (List AParam) → List AV := fun x => [.ssl (encs c81 x) x.length false]
instance : Enc c75 1 := ⟨fun _ => rfl⟩
theorem ok75 (x : (List AParam)) : (c75 x).all cellOk = true := rfl
theorem fr75 (x : (List AParam)) : freeL (c75 x) = true := by simp [freeL, free, freeL_encs fr81]
abbrev c2 : Int → List AV := fun x => [.sc (.int .i64 x)]
instance : Enc c2 1 := ⟨fun _ => rfl⟩
theorem ok2 (x : Int) : (c2 x).all cellOk = true := rfl
theorem fr2 (x : Int) : freeL (c2 x) = true := rfl
abbrev c5 : Int → List AV := fun x => [.sc (.int .u8 x)]
instance : Enc c5 1 := ⟨fun _ => rfl⟩
theorem ok5 (x : Int) : (c5 x).all cellOk = true := rfl
theorem fr5 (x : Int) : freeL (c5 x) = true := rfl
abbrev c29 : (List Int) → List AV := fun x => [.ssl (encs c5 x) x.length false]
instance : Enc c29 1 := ⟨fun _ => rfl⟩
theorem ok29 (x : (List Int)) : (c29 x).all cellOk = true := rfl
theorem fr29 (x : (List Int)) : freeL (c29 x) = true := by simp [freeL, free, freeL_encs fr5]
structure APat where
 Kind : Int
 At : APos
 Name : ByteArray
 Num : Int
 Kids : (List APat)
mutual
def c39 : APat → List AV
 | ⟨x0, x1, x2, x3, x4⟩ => c3 x0 ++ (c28 x1 ++ (c9 x2 ++ (c2 x3 ++ ([.ssl (l39 x4) x4.length false]))))
def l39 : List APat → List AV
 | [] => []
 | x :: xs => c39 x ++ l39 xs
end
theorem l39_eq : ∀ xs : List APat, l39 xs = encs c39 xs
 | [] => by rw [l39, encs_nil]
 | x :: xs => by rw [l39, encs_cons, l39_eq xs]
abbrev c37 : (List APat) → List AV := fun x => [.ssl (encs c39 x) x.length false]
instance : Enc c37 1 := ⟨fun _ => rfl⟩
theorem ok37 (x : (List APat)) : (c37 x).all cellOk = true := rfl
theorem u39 (x : APat) : c39 x = c3 x.Kind ++ (c28 x.At ++ (c9 x.Name ++ (c2 x.Num ++ (c37 x.Kids)))) := by
 cases x; simp only [c39, l39_eq]
instance : Enc c39 6 := ⟨fun x => by rw [u39]; simp only [List.length_append, Enc.len (e := c2), Enc.len (e := c3), Enc.len (e := c9), Enc.len (e := c28), Enc.len (e := c37)]⟩
theorem len39 (x : APat) : (c39 x).length = 6 := Enc.len (e := c39) x
theorem ok39 (x : APat) : (c39 x).all cellOk = true := by rw [u39]; simp only [List.all_append, ok2, ok3, ok9, ok28, ok37]; rfl
mutual
theorem fr39 : ∀ x : APat, freeL (c39 x) = true
 | ⟨x0, x1, x2, x3, x4⟩ => by rw [c39]; simp only [freeL_append, fr2, fr3, fr9, fr28]; simp [freeL, free, fl39 x4]
theorem fl39 : ∀ xs : List APat, freeL (l39 xs) = true
 | [] => by rw [l39]; rfl
 | x :: xs => by rw [l39, freeL_append, fr39 x, fl39 xs]; rfl
end
mutual
structure AExpr where
 Kind : Int
 At : APos
 Num : Int
 Bytes : (List Int)
 Name : ByteArray
 Kids : (List AExpr)
 Arms : (List AArm)
structure AArm where
 Pat : APat
 Body : AExpr
end
mutual
def c33 : AExpr → List AV
 | ⟨x0, x1, x2, x3, x4, x5, x6⟩ => c3 x0 ++ (c28 x1 ++ (c2 x2 ++ (c29 x3 ++ (c9 x4 ++ ([.ssl (l33 x5) x5.length false] ++ ([.ssl (l68 x6) x6.length false]))))))
def c68 : AArm → List AV
 | ⟨x0, x1⟩ => c39 x0 ++ (c33 x1)
def l33 : List AExpr → List AV
 | [] => []
 | x :: xs => c33 x ++ l33 xs
def l68 : List AArm → List AV
 | [] => []
 | x :: xs => c68 x ++ l68 xs
end
theorem l33_eq : ∀ xs : List AExpr, l33 xs = encs c33 xs
 | [] => by rw [l33, encs_nil]
 | x :: xs => by rw [l33, encs_cons, l33_eq xs]
theorem l68_eq : ∀ xs : List AArm, l68 xs = encs c68 xs
 | [] => by rw [l68, encs_nil]
 | x :: xs => by rw [l68, encs_cons, l68_eq xs]
abbrev c30 : (List AExpr) → List AV := fun x => [.ssl (encs c33 x) x.length false]
instance : Enc c30 1 := ⟨fun _ => rfl⟩
theorem ok30 (x : (List AExpr)) : (c30 x).all cellOk = true := rfl
abbrev c31 : (List AArm) → List AV := fun x => [.ssl (encs c68 x) x.length false]
instance : Enc c31 1 := ⟨fun _ => rfl⟩
theorem ok31 (x : (List AArm)) : (c31 x).all cellOk = true := rfl
theorem u33 (x : AExpr) : c33 x = c3 x.Kind ++ (c28 x.At ++ (c2 x.Num ++ (c29 x.Bytes ++ (c9 x.Name ++ (c30 x.Kids ++ (c31 x.Arms)))))) := by
 cases x; simp only [c33, l33_eq, l68_eq]
theorem u68 (x : AArm) : c68 x = c39 x.Pat ++ (c33 x.Body) := by
 cases x; simp only [c68, l33_eq, l68_eq]
instance : Enc c33 8 := ⟨fun x => by rw [u33]; simp only [List.length_append, Enc.len (e := c2), Enc.len (e := c3), Enc.len (e := c9), Enc.len (e := c28), Enc.len (e := c29), Enc.len (e := c30), Enc.len (e := c31)]⟩
theorem len33 (x : AExpr) : (c33 x).length = 8 := Enc.len (e := c33) x
theorem ok33 (x : AExpr) : (c33 x).all cellOk = true := by rw [u33]; simp only [List.all_append, ok2, ok3, ok9, ok28, ok29, ok30, ok31]; rfl
instance : Enc c68 14 := ⟨fun x => by rw [u68]; simp only [List.length_append, Enc.len (e := c33), Enc.len (e := c39)]⟩
theorem len68 (x : AArm) : (c68 x).length = 14 := Enc.len (e := c68) x
theorem ok68 (x : AArm) : (c68 x).all cellOk = true := by rw [u68]; simp only [List.all_append, ok33, ok39]; rfl
mutual
theorem fr33 : ∀ x : AExpr, freeL (c33 x) = true
 | ⟨x0, x1, x2, x3, x4, x5, x6⟩ => by rw [c33]; simp only [freeL_append, fr2, fr3, fr9, fr28, fr29]; simp [freeL, free, fl33 x5, fl68 x6]
theorem fr68 : ∀ x : AArm, freeL (c68 x) = true
 | ⟨x0, x1⟩ => by rw [c68]; simp only [freeL_append, fr39]; simp [freeL, free, fr33 x1]
theorem fl33 : ∀ xs : List AExpr, freeL (l33 xs) = true
 | [] => by rw [l33]; rfl
 | x :: xs => by rw [l33, freeL_append, fr33 x, fl33 xs]; rfl
theorem fl68 : ∀ xs : List AArm, freeL (l68 xs) = true
 | [] => by rw [l68]; rfl
 | x :: xs => by rw [l68, freeL_append, fr68 x, fl68 xs]; rfl
end
structure AFun where
 At : APos
 Name : ByteArray
 Params : (List AParam)
 Result : AType
 Body : AExpr
def c77 (x : AFun) : List AV := c28 x.At ++ (c9 x.Name ++ (c75 x.Params ++ (c26 x.Result ++ (c33 x.Body))))
instance : Enc c77 15 := ⟨fun x => by simp only [c77, List.length_append, Enc.len (e := c9), Enc.len (e := c26), Enc.len (e := c28), Enc.len (e := c33), Enc.len (e := c75)]⟩
theorem len77 (x : AFun) : (c77 x).length = 15 := Enc.len (e := c77) x
theorem ok77 (x : AFun) : (c77 x).all cellOk = true := by simp only [c77, List.all_append, ok9, ok26, ok28, ok33, ok75] <;> rfl
theorem fr77 (x : AFun) : freeL (c77 x) = true := by simp only [c77, freeL_append, fr9, fr26, fr28, fr33, fr75] <;> rfl
abbrev c23 : (List AFun) → List AV := fun x => [.ssl (encs c77 x) x.length false]
instance : Enc c23 1 := ⟨fun _ => rfl⟩
theorem ok23 (x : (List AFun)) : (c23 x).all cellOk = true := rfl
theorem fr23 (x : (List AFun)) : freeL (c23 x) = true := by simp [freeL, free, freeL_encs fr77]
structure AHand where
 At : APos
 Name : ByteArray
 Param : AParam
 Cap : Int
 Body : AExpr
def c83 (x : AHand) : List AV := c28 x.At ++ (c9 x.Name ++ (c81 x.Param ++ (c3 x.Cap ++ (c33 x.Body))))
instance : Enc c83 16 := ⟨fun x => by simp only [c83, List.length_append, Enc.len (e := c3), Enc.len (e := c9), Enc.len (e := c28), Enc.len (e := c33), Enc.len (e := c81)]⟩
theorem len83 (x : AHand) : (c83 x).length = 16 := Enc.len (e := c83) x
theorem ok83 (x : AHand) : (c83 x).all cellOk = true := by simp only [c83, List.all_append, ok3, ok9, ok28, ok33, ok81] <;> rfl
theorem fr83 (x : AHand) : freeL (c83 x) = true := by simp only [c83, freeL_append, fr3, fr9, fr28, fr33, fr81] <;> rfl
abbrev c34 : (List AHand) → List AV := fun x => [.ssl (encs c83 x) x.length false]
instance : Enc c34 1 := ⟨fun _ => rfl⟩
theorem ok34 (x : (List AHand)) : (c34 x).all cellOk = true := rfl
theorem fr34 (x : (List AHand)) : freeL (c34 x) = true := by simp [freeL, free, freeL_encs fr83]
structure AProg where
 Datas : (List AData)
 Funs : (List AFun)
 Queue : Int
 Timers : Int
 State : AType
 Cap : Int
 Init : AExpr
 Hands : (List AHand)
def c36 (x : AProg) : List AV := c22 x.Datas ++ (c23 x.Funs ++ (c3 x.Queue ++ (c3 x.Timers ++ (c26 x.State ++ (c3 x.Cap ++ (c33 x.Init ++ (c34 x.Hands)))))))
instance : Enc c36 17 := ⟨fun x => by simp only [c36, List.length_append, Enc.len (e := c3), Enc.len (e := c22), Enc.len (e := c23), Enc.len (e := c26), Enc.len (e := c33), Enc.len (e := c34)]⟩
theorem len36 (x : AProg) : (c36 x).length = 17 := Enc.len (e := c36) x
theorem ok36 (x : AProg) : (c36 x).all cellOk = true := by simp only [c36, List.all_append, ok3, ok22, ok23, ok26, ok33, ok34] <;> rfl
theorem fr36 (x : AProg) : freeL (c36 x) = true := by simp only [c36, freeL_append, fr3, fr22, fr23, fr26, fr33, fr34] <;> rfl
abbrev c4 : Bool → List AV := fun x => [.sc (.bool x)]
instance : Enc c4 1 := ⟨fun _ => rfl⟩
theorem ok4 (x : Bool) : (c4 x).all cellOk = true := rfl
theorem fr4 (x : Bool) : freeL (c4 x) = true := rfl
abbrev c87 : Int → List AV := fun x => [.sc (.int .i64 x)]
instance : Enc c87 1 := ⟨fun _ => rfl⟩
abbrev c21 : Int → List AV := fun x => [.sc (.int .i32 x)]
instance : Enc c21 1 := ⟨fun _ => rfl⟩
structure ast_shape where
 named : Bool
 numbered : Bool
 bytes : Bool
 least : Int
 top : Int
 arms : Bool
def c153 (x : ast_shape) : List AV := c4 x.named ++ (c4 x.numbered ++ (c4 x.bytes ++ (c3 x.least ++ (c3 x.top ++ (c4 x.arms)))))
instance : Enc c153 6 := ⟨fun x => by simp only [c153, List.length_append, Enc.len (e := c3), Enc.len (e := c4)]⟩
theorem len153 (x : ast_shape) : (c153 x).length = 6 := Enc.len (e := c153) x
theorem ok153 (x : ast_shape) : (c153 x).all cellOk = true := by simp only [c153, List.all_append, ok3, ok4] <;> rfl
theorem fr153 (x : ast_shape) : freeL (c153 x) = true := by simp only [c153, freeL_append, fr3, fr4] <;> rfl
theorem ld_36_0_36 (x : AProg) : partOf T.T 36 (c36 x) 0 = some (.agg (c36 x)) := part_all T.t36 rfl (by rw [len36])
theorem ld_36_8_33 (x : AProg) : partOf T.T 33 (c36 x) 8 = some (.agg (c33 x.Init)) := by
 rw [c36]
 rw [show 8 = 1 + 7 from rfl, part_skip T.t33 (Enc.len (e := c22) _)]
 rw [show 7 = 1 + 6 from rfl, part_skip T.t33 (Enc.len (e := c23) _)]
 rw [show 6 = 1 + 5 from rfl, part_skip T.t33 (Enc.len (e := c3) _)]
 rw [show 5 = 1 + 4 from rfl, part_skip T.t33 (Enc.len (e := c3) _)]
 rw [show 4 = 3 + 1 from rfl, part_skip T.t33 (Enc.len (e := c26) _)]
 rw [show 1 = 1 + 0 from rfl, part_skip T.t33 (Enc.len (e := c3) _)]
 rw [part_head T.t33 (by decide) (by rw [Enc.len (e := c33)]; decide)]
 exact part_all T.t33 rfl (by rw [len33])
theorem ld_36_4_26 (x : AProg) : partOf T.T 26 (c36 x) 4 = some (.agg (c26 x.State)) := by
 rw [c36]
 rw [show 4 = 1 + 3 from rfl, part_skip T.t26 (Enc.len (e := c22) _)]
 rw [show 3 = 1 + 2 from rfl, part_skip T.t26 (Enc.len (e := c23) _)]
 rw [show 2 = 1 + 1 from rfl, part_skip T.t26 (Enc.len (e := c3) _)]
 rw [show 1 = 1 + 0 from rfl, part_skip T.t26 (Enc.len (e := c3) _)]
 rw [part_head T.t26 (by decide) (by rw [Enc.len (e := c26)]; decide)]
 exact part_all T.t26 rfl (by rw [len26])
theorem ld_26_1_9 (x : AType) : partOf T.T 9 (c26 x) 1 = some (.sc (.string x.Name)) := by
 rw [u26]
 rw [show 1 = 1 + 0 from rfl, part_skip T.t9 (Enc.len (e := c3) _)]
 rw [part_head T.t9 (by decide) (by rw [Enc.len (e := c9)]; decide)]
 rfl
theorem ld_26_2_24 (x : AType) : partOf T.T 24 (c26 x) 2 = some (.ssl (encs c26 x.Parts) x.Parts.length false) := by
 rw [u26]
 rw [show 2 = 1 + 1 from rfl, part_skip T.t24 (Enc.len (e := c3) _)]
 rw [show 1 = 1 + 0 from rfl, part_skip T.t24 (Enc.len (e := c9) _)]
 rfl
theorem pd26 (l : List AV) (o : Nat) : partOf T.T 26 (l.drop o) 0 = partOf T.T 26 l o := partOf_drop T.t26 (by decide) l o
theorem ld_26_0_26 (x : AType) : partOf T.T 26 (c26 x) 0 = some (.agg (c26 x)) := part_all T.t26 rfl (by rw [len26])
theorem ld_33_4_29 (x : AExpr) : partOf T.T 29 (c33 x) 4 = some (.ssl (encs c5 x.Bytes) x.Bytes.length false) := by
 rw [u33]
 rw [show 4 = 1 + 3 from rfl, part_skip T.t29 (Enc.len (e := c3) _)]
 rw [show 3 = 2 + 1 from rfl, part_skip T.t29 (Enc.len (e := c28) _)]
 rw [show 1 = 1 + 0 from rfl, part_skip T.t29 (Enc.len (e := c2) _)]
 rw [part_head T.t29 (by decide) (by rw [Enc.len (e := c29)]; decide)]
 rfl
theorem ld_33_5_9 (x : AExpr) : partOf T.T 9 (c33 x) 5 = some (.sc (.string x.Name)) := by
 rw [u33]
 rw [show 5 = 1 + 4 from rfl, part_skip T.t9 (Enc.len (e := c3) _)]
 rw [show 4 = 2 + 2 from rfl, part_skip T.t9 (Enc.len (e := c28) _)]
 rw [show 2 = 1 + 1 from rfl, part_skip T.t9 (Enc.len (e := c2) _)]
 rw [show 1 = 1 + 0 from rfl, part_skip T.t9 (Enc.len (e := c29) _)]
 rw [part_head T.t9 (by decide) (by rw [Enc.len (e := c9)]; decide)]
 rfl
theorem ld_33_6_30 (x : AExpr) : partOf T.T 30 (c33 x) 6 = some (.ssl (encs c33 x.Kids) x.Kids.length false) := by
 rw [u33]
 rw [show 6 = 1 + 5 from rfl, part_skip T.t30 (Enc.len (e := c3) _)]
 rw [show 5 = 2 + 3 from rfl, part_skip T.t30 (Enc.len (e := c28) _)]
 rw [show 3 = 1 + 2 from rfl, part_skip T.t30 (Enc.len (e := c2) _)]
 rw [show 2 = 1 + 1 from rfl, part_skip T.t30 (Enc.len (e := c29) _)]
 rw [show 1 = 1 + 0 from rfl, part_skip T.t30 (Enc.len (e := c9) _)]
 rw [part_head T.t30 (by decide) (by rw [Enc.len (e := c30)]; decide)]
 rfl
theorem pd33 (l : List AV) (o : Nat) : partOf T.T 33 (l.drop o) 0 = partOf T.T 33 l o := partOf_drop T.t33 (by decide) l o
theorem ld_33_0_33 (x : AExpr) : partOf T.T 33 (c33 x) 0 = some (.agg (c33 x)) := part_all T.t33 rfl (by rw [len33])
theorem ld_33_7_31 (x : AExpr) : partOf T.T 31 (c33 x) 7 = some (.ssl (encs c68 x.Arms) x.Arms.length false) := by
 rw [u33]
 rw [show 7 = 1 + 6 from rfl, part_skip T.t31 (Enc.len (e := c3) _)]
 rw [show 6 = 2 + 4 from rfl, part_skip T.t31 (Enc.len (e := c28) _)]
 rw [show 4 = 1 + 3 from rfl, part_skip T.t31 (Enc.len (e := c2) _)]
 rw [show 3 = 1 + 2 from rfl, part_skip T.t31 (Enc.len (e := c29) _)]
 rw [show 2 = 1 + 1 from rfl, part_skip T.t31 (Enc.len (e := c9) _)]
 rw [show 1 = 1 + 0 from rfl, part_skip T.t31 (Enc.len (e := c30) _)]
 rfl
theorem ld_68_6_33 (x : AArm) : partOf T.T 33 (c68 x) 6 = some (.agg (c33 x.Body)) := by
 rw [u68]
 rw [show 6 = 6 + 0 from rfl, part_skip T.t33 (Enc.len (e := c39) _)]
 exact part_all T.t33 rfl (by rw [len33])
theorem pd39 (l : List AV) (o : Nat) : partOf T.T 39 (l.drop o) 0 = partOf T.T 39 l o := partOf_drop T.t39 (by decide) l o
theorem ld_68_0_39 (x : AArm) : partOf T.T 39 (c68 x) 0 = some (.agg (c39 x.Pat)) := by
 rw [u68]
 rw [part_head T.t39 (by decide) (by rw [Enc.len (e := c39)]; decide)]
 exact part_all T.t39 rfl (by rw [len39])
theorem ld_39_3_9 (x : APat) : partOf T.T 9 (c39 x) 3 = some (.sc (.string x.Name)) := by
 rw [u39]
 rw [show 3 = 1 + 2 from rfl, part_skip T.t9 (Enc.len (e := c3) _)]
 rw [show 2 = 2 + 0 from rfl, part_skip T.t9 (Enc.len (e := c28) _)]
 rw [part_head T.t9 (by decide) (by rw [Enc.len (e := c9)]; decide)]
 rfl
theorem ld_39_5_37 (x : APat) : partOf T.T 37 (c39 x) 5 = some (.ssl (encs c39 x.Kids) x.Kids.length false) := by
 rw [u39]
 rw [show 5 = 1 + 4 from rfl, part_skip T.t37 (Enc.len (e := c3) _)]
 rw [show 4 = 2 + 2 from rfl, part_skip T.t37 (Enc.len (e := c28) _)]
 rw [show 2 = 1 + 1 from rfl, part_skip T.t37 (Enc.len (e := c9) _)]
 rw [show 1 = 1 + 0 from rfl, part_skip T.t37 (Enc.len (e := c2) _)]
 rfl
theorem ld_39_0_39 (x : APat) : partOf T.T 39 (c39 x) 0 = some (.agg (c39 x)) := part_all T.t39 rfl (by rw [len39])
theorem ld_36_0_22 (x : AProg) : partOf T.T 22 (c36 x) 0 = some (.ssl (encs c72 x.Datas) x.Datas.length false) := by
 rw [c36]
 rw [part_head T.t22 (by decide) (by rw [Enc.len (e := c22)]; decide)]
 rfl
theorem pd9 (l : List AV) (o : Nat) : partOf T.T 9 (l.drop o) 0 = partOf T.T 9 l o := partOf_drop T.t9 (by decide) l o
theorem ld_72_2_9 (x : AData) : partOf T.T 9 (c72 x) 2 = some (.sc (.string x.Name)) := by
 rw [c72]
 rw [show 2 = 2 + 0 from rfl, part_skip T.t9 (Enc.len (e := c28) _)]
 rw [part_head T.t9 (by decide) (by rw [Enc.len (e := c9)]; decide)]
 rfl
theorem pd70 (l : List AV) (o : Nat) : partOf T.T 70 (l.drop o) 0 = partOf T.T 70 l o := partOf_drop T.t70 (by decide) l o
theorem ld_72_3_70 (x : AData) : partOf T.T 70 (c72 x) 3 = some (.ssl (encs c92 x.Cons) x.Cons.length false) := by
 rw [c72]
 rw [show 3 = 2 + 1 from rfl, part_skip T.t70 (Enc.len (e := c28) _)]
 rw [show 1 = 1 + 0 from rfl, part_skip T.t70 (Enc.len (e := c9) _)]
 rfl
theorem ld_92_0_9 (x : ACon) : partOf T.T 9 (c92 x) 0 = some (.sc (.string x.Name)) := by
 rw [c92]
 rw [part_head T.t9 (by decide) (by rw [Enc.len (e := c9)]; decide)]
 rfl
theorem pd24 (l : List AV) (o : Nat) : partOf T.T 24 (l.drop o) 0 = partOf T.T 24 l o := partOf_drop T.t24 (by decide) l o
theorem ld_92_1_24 (x : ACon) : partOf T.T 24 (c92 x) 1 = some (.ssl (encs c26 x.Fields) x.Fields.length false) := by
 rw [c92]
 rw [show 1 = 1 + 0 from rfl, part_skip T.t24 (Enc.len (e := c9) _)]
 rfl
theorem st_26_1_9 (x : AType) (v : ByteArray) : splice (c26 x) 1 ([.sc (.string v)]) = c26 ({ x with Name := v }) := by
 rw [u26, u26]
 all_goals rw [show 1 = 1 + 0 from rfl, splice_skip (Enc.len (e := c3) _)]
 all_goals congr 1
 all_goals rw [splice_head (by simp [Enc.len (e := c9), len_one])]
 all_goals congr 1
 all_goals rfl
theorem st_26_2_24 (x : AType) (v : (List AType)) : splice (c26 x) 2 ([.ssl (encs c26 v) v.length false]) = c26 ({ x with Parts := v }) := by
 rw [u26, u26]
 all_goals rw [show 2 = 1 + 1 from rfl, splice_skip (Enc.len (e := c3) _)]
 all_goals congr 1
 all_goals rw [show 1 = 1 + 0 from rfl, splice_skip (Enc.len (e := c9) _)]
 all_goals congr 1
 all_goals rfl
theorem ld_36_1_23 (x : AProg) : partOf T.T 23 (c36 x) 1 = some (.ssl (encs c77 x.Funs) x.Funs.length false) := by
 rw [c36]
 rw [show 1 = 1 + 0 from rfl, part_skip T.t23 (Enc.len (e := c22) _)]
 rw [part_head T.t23 (by decide) (by rw [Enc.len (e := c23)]; decide)]
 rfl
theorem pd77 (l : List AV) (o : Nat) : partOf T.T 77 (l.drop o) 0 = partOf T.T 77 l o := partOf_drop T.t77 (by decide) l o
theorem ld_77_0_77 (x : AFun) : partOf T.T 77 (c77 x) 0 = some (.agg (c77 x)) := part_all T.t77 rfl (by rw [len77])
theorem st_77_0_77 (x : AFun) (v : AFun) : splice (c77 x) 0 (c77 v) = c77 v := by
 exact splice_all (by simp only [Enc.len (e := c77)])
theorem ld_77_7_33 (x : AFun) : partOf T.T 33 (c77 x) 7 = some (.agg (c33 x.Body)) := by
 rw [c77]
 rw [show 7 = 2 + 5 from rfl, part_skip T.t33 (Enc.len (e := c28) _)]
 rw [show 5 = 1 + 4 from rfl, part_skip T.t33 (Enc.len (e := c9) _)]
 rw [show 4 = 1 + 3 from rfl, part_skip T.t33 (Enc.len (e := c75) _)]
 rw [show 3 = 3 + 0 from rfl, part_skip T.t33 (Enc.len (e := c26) _)]
 exact part_all T.t33 rfl (by rw [len33])
theorem ld_77_4_26 (x : AFun) : partOf T.T 26 (c77 x) 4 = some (.agg (c26 x.Result)) := by
 rw [c77]
 rw [show 4 = 2 + 2 from rfl, part_skip T.t26 (Enc.len (e := c28) _)]
 rw [show 2 = 1 + 1 from rfl, part_skip T.t26 (Enc.len (e := c9) _)]
 rw [show 1 = 1 + 0 from rfl, part_skip T.t26 (Enc.len (e := c75) _)]
 rw [part_head T.t26 (by decide) (by rw [Enc.len (e := c26)]; decide)]
 exact part_all T.t26 rfl (by rw [len26])
theorem ld_77_2_9 (x : AFun) : partOf T.T 9 (c77 x) 2 = some (.sc (.string x.Name)) := by
 rw [c77]
 rw [show 2 = 2 + 0 from rfl, part_skip T.t9 (Enc.len (e := c28) _)]
 rw [part_head T.t9 (by decide) (by rw [Enc.len (e := c9)]; decide)]
 rfl
theorem ld_77_3_75 (x : AFun) : partOf T.T 75 (c77 x) 3 = some (.ssl (encs c81 x.Params) x.Params.length false) := by
 rw [c77]
 rw [show 3 = 2 + 1 from rfl, part_skip T.t75 (Enc.len (e := c28) _)]
 rw [show 1 = 1 + 0 from rfl, part_skip T.t75 (Enc.len (e := c9) _)]
 rw [part_head T.t75 (by decide) (by rw [Enc.len (e := c75)]; decide)]
 rfl
theorem ld_81_1_26 (x : AParam) : partOf T.T 26 (c81 x) 1 = some (.agg (c26 x.Type_)) := by
 rw [c81]
 rw [show 1 = 1 + 0 from rfl, part_skip T.t26 (Enc.len (e := c9) _)]
 exact part_all T.t26 rfl (by rw [len26])
theorem ld_81_0_9 (x : AParam) : partOf T.T 9 (c81 x) 0 = some (.sc (.string x.Name)) := by
 rw [c81]
 rw [part_head T.t9 (by decide) (by rw [Enc.len (e := c9)]; decide)]
 rfl
theorem ld_36_16_34 (x : AProg) : partOf T.T 34 (c36 x) 16 = some (.ssl (encs c83 x.Hands) x.Hands.length false) := by
 rw [c36]
 rw [show 16 = 1 + 15 from rfl, part_skip T.t34 (Enc.len (e := c22) _)]
 rw [show 15 = 1 + 14 from rfl, part_skip T.t34 (Enc.len (e := c23) _)]
 rw [show 14 = 1 + 13 from rfl, part_skip T.t34 (Enc.len (e := c3) _)]
 rw [show 13 = 1 + 12 from rfl, part_skip T.t34 (Enc.len (e := c3) _)]
 rw [show 12 = 3 + 9 from rfl, part_skip T.t34 (Enc.len (e := c26) _)]
 rw [show 9 = 1 + 8 from rfl, part_skip T.t34 (Enc.len (e := c3) _)]
 rw [show 8 = 8 + 0 from rfl, part_skip T.t34 (Enc.len (e := c33) _)]
 rfl
theorem pd83 (l : List AV) (o : Nat) : partOf T.T 83 (l.drop o) 0 = partOf T.T 83 l o := partOf_drop T.t83 (by decide) l o
theorem ld_83_0_83 (x : AHand) : partOf T.T 83 (c83 x) 0 = some (.agg (c83 x)) := part_all T.t83 rfl (by rw [len83])
theorem st_83_0_83 (x : AHand) (v : AHand) : splice (c83 x) 0 (c83 v) = c83 v := by
 exact splice_all (by simp only [Enc.len (e := c83)])
theorem ld_83_8_33 (x : AHand) : partOf T.T 33 (c83 x) 8 = some (.agg (c33 x.Body)) := by
 rw [c83]
 rw [show 8 = 2 + 6 from rfl, part_skip T.t33 (Enc.len (e := c28) _)]
 rw [show 6 = 1 + 5 from rfl, part_skip T.t33 (Enc.len (e := c9) _)]
 rw [show 5 = 4 + 1 from rfl, part_skip T.t33 (Enc.len (e := c81) _)]
 rw [show 1 = 1 + 0 from rfl, part_skip T.t33 (Enc.len (e := c3) _)]
 exact part_all T.t33 rfl (by rw [len33])
theorem ld_83_4_26 (x : AHand) : partOf T.T 26 (c83 x) 4 = some (.agg (c26 x.Param.Type_)) := by
 rw [c83]
 rw [show 4 = 2 + 2 from rfl, part_skip T.t26 (Enc.len (e := c28) _)]
 rw [show 2 = 1 + 1 from rfl, part_skip T.t26 (Enc.len (e := c9) _)]
 rw [part_head T.t26 (by decide) (by rw [Enc.len (e := c81)]; decide)]
 rw [c81]
 rw [show 1 = 1 + 0 from rfl, part_skip T.t26 (Enc.len (e := c9) _)]
 exact part_all T.t26 rfl (by rw [len26])
theorem ld_83_2_9 (x : AHand) : partOf T.T 9 (c83 x) 2 = some (.sc (.string x.Name)) := by
 rw [c83]
 rw [show 2 = 2 + 0 from rfl, part_skip T.t9 (Enc.len (e := c28) _)]
 rw [part_head T.t9 (by decide) (by rw [Enc.len (e := c9)]; decide)]
 rfl
theorem ld_83_3_9 (x : AHand) : partOf T.T 9 (c83 x) 3 = some (.sc (.string x.Param.Name)) := by
 rw [c83]
 rw [show 3 = 2 + 1 from rfl, part_skip T.t9 (Enc.len (e := c28) _)]
 rw [show 1 = 1 + 0 from rfl, part_skip T.t9 (Enc.len (e := c9) _)]
 rw [part_head T.t9 (by decide) (by rw [Enc.len (e := c81)]; decide)]
 rw [c81]
 rw [part_head T.t9 (by decide) (by rw [Enc.len (e := c9)]; decide)]
 rfl
theorem st_26_0_26 (x : AType) (v : AType) : splice (c26 x) 0 (c26 v) = c26 v := by
 exact splice_all (by simp only [Enc.len (e := c26)])
theorem st_33_0_33 (x : AExpr) (v : AExpr) : splice (c33 x) 0 (c33 v) = c33 v := by
 exact splice_all (by simp only [Enc.len (e := c33)])
theorem pd68 (l : List AV) (o : Nat) : partOf T.T 68 (l.drop o) 0 = partOf T.T 68 l o := partOf_drop T.t68 (by decide) l o
theorem ld_68_0_68 (x : AArm) : partOf T.T 68 (c68 x) 0 = some (.agg (c68 x)) := part_all T.t68 rfl (by rw [len68])
theorem st_68_0_68 (x : AArm) (v : AArm) : splice (c68 x) 0 (c68 v) = c68 v := by
 exact splice_all (by simp only [Enc.len (e := c68)])
theorem st_33_1_28 (x : AExpr) (v : APos) : splice (c33 x) 1 (c28 v) = c33 ({ x with At := v }) := by
 rw [u33, u33]
 all_goals rw [show 1 = 1 + 0 from rfl, splice_skip (Enc.len (e := c3) _)]
 all_goals congr 1
 all_goals rw [splice_head (by simp [Enc.len (e := c28), len_one, len28])]
 all_goals congr 1
 all_goals exact splice_all (by simp only [Enc.len (e := c28)])
theorem st_33_4_29 (x : AExpr) (v : (List Int)) : splice (c33 x) 4 ([.ssl (encs c5 v) v.length false]) = c33 ({ x with Bytes := v }) := by
 rw [u33, u33]
 all_goals rw [show 4 = 1 + 3 from rfl, splice_skip (Enc.len (e := c3) _)]
 all_goals congr 1
 all_goals rw [show 3 = 2 + 1 from rfl, splice_skip (Enc.len (e := c28) _)]
 all_goals congr 1
 all_goals rw [show 1 = 1 + 0 from rfl, splice_skip (Enc.len (e := c2) _)]
 all_goals congr 1
 all_goals rw [splice_head (by simp [Enc.len (e := c29), len_one])]
 all_goals congr 1
 all_goals rfl
theorem st_33_6_30 (x : AExpr) (v : (List AExpr)) : splice (c33 x) 6 ([.ssl (encs c33 v) v.length false]) = c33 ({ x with Kids := v }) := by
 rw [u33, u33]
 all_goals rw [show 6 = 1 + 5 from rfl, splice_skip (Enc.len (e := c3) _)]
 all_goals congr 1
 all_goals rw [show 5 = 2 + 3 from rfl, splice_skip (Enc.len (e := c28) _)]
 all_goals congr 1
 all_goals rw [show 3 = 1 + 2 from rfl, splice_skip (Enc.len (e := c2) _)]
 all_goals congr 1
 all_goals rw [show 2 = 1 + 1 from rfl, splice_skip (Enc.len (e := c29) _)]
 all_goals congr 1
 all_goals rw [show 1 = 1 + 0 from rfl, splice_skip (Enc.len (e := c9) _)]
 all_goals congr 1
 all_goals rw [splice_head (by simp [Enc.len (e := c30), len_one])]
 all_goals congr 1
 all_goals rfl
theorem st_33_7_31 (x : AExpr) (v : (List AArm)) : splice (c33 x) 7 ([.ssl (encs c68 v) v.length false]) = c33 ({ x with Arms := v }) := by
 rw [u33, u33]
 all_goals rw [show 7 = 1 + 6 from rfl, splice_skip (Enc.len (e := c3) _)]
 all_goals congr 1
 all_goals rw [show 6 = 2 + 4 from rfl, splice_skip (Enc.len (e := c28) _)]
 all_goals congr 1
 all_goals rw [show 4 = 1 + 3 from rfl, splice_skip (Enc.len (e := c2) _)]
 all_goals congr 1
 all_goals rw [show 3 = 1 + 2 from rfl, splice_skip (Enc.len (e := c29) _)]
 all_goals congr 1
 all_goals rw [show 2 = 1 + 1 from rfl, splice_skip (Enc.len (e := c9) _)]
 all_goals congr 1
 all_goals rw [show 1 = 1 + 0 from rfl, splice_skip (Enc.len (e := c30) _)]
 all_goals congr 1
 all_goals rfl
theorem st_39_0_39 (x : APat) (v : APat) : splice (c39 x) 0 (c39 v) = c39 v := by
 exact splice_all (by simp only [Enc.len (e := c39)])
theorem st_39_1_28 (x : APat) (v : APos) : splice (c39 x) 1 (c28 v) = c39 ({ x with At := v }) := by
 rw [u39, u39]
 all_goals rw [show 1 = 1 + 0 from rfl, splice_skip (Enc.len (e := c3) _)]
 all_goals congr 1
 all_goals rw [splice_head (by simp [Enc.len (e := c28), len_one, len28])]
 all_goals congr 1
 all_goals exact splice_all (by simp only [Enc.len (e := c28)])
theorem st_39_5_37 (x : APat) (v : (List APat)) : splice (c39 x) 5 ([.ssl (encs c39 v) v.length false]) = c39 ({ x with Kids := v }) := by
 rw [u39, u39]
 all_goals rw [show 5 = 1 + 4 from rfl, splice_skip (Enc.len (e := c3) _)]
 all_goals congr 1
 all_goals rw [show 4 = 2 + 2 from rfl, splice_skip (Enc.len (e := c28) _)]
 all_goals congr 1
 all_goals rw [show 2 = 1 + 1 from rfl, splice_skip (Enc.len (e := c9) _)]
 all_goals congr 1
 all_goals rw [show 1 = 1 + 0 from rfl, splice_skip (Enc.len (e := c2) _)]
 all_goals congr 1
 all_goals rfl
theorem st_68_0_39 (x : AArm) (v : APat) : splice (c68 x) 0 (c39 v) = c68 ({ x with Pat := v }) := by
 rw [u68, u68]
 all_goals rw [splice_head (by simp [Enc.len (e := c39), len_one, len39])]
 all_goals congr 1
 all_goals exact splice_all (by simp only [Enc.len (e := c39)])
theorem st_68_6_33 (x : AArm) (v : AExpr) : splice (c68 x) 6 (c33 v) = c68 ({ x with Body := v }) := by
 rw [u68, u68]
 all_goals rw [show 6 = 6 + 0 from rfl, splice_skip (Enc.len (e := c39) _)]
 all_goals congr 1
 all_goals exact splice_all (by simp only [Enc.len (e := c33)])
theorem st_36_4_26 (x : AProg) (v : AType) : splice (c36 x) 4 (c26 v) = c36 ({ x with State := v }) := by
 rw [c36, c36]
 all_goals rw [show 4 = 1 + 3 from rfl, splice_skip (Enc.len (e := c22) _)]
 all_goals congr 1
 all_goals rw [show 3 = 1 + 2 from rfl, splice_skip (Enc.len (e := c23) _)]
 all_goals congr 1
 all_goals rw [show 2 = 1 + 1 from rfl, splice_skip (Enc.len (e := c3) _)]
 all_goals congr 1
 all_goals rw [show 1 = 1 + 0 from rfl, splice_skip (Enc.len (e := c3) _)]
 all_goals congr 1
 all_goals rw [splice_head (by simp [Enc.len (e := c26), len_one, len26])]
 all_goals congr 1
 all_goals exact splice_all (by simp only [Enc.len (e := c26)])
theorem st_36_8_33 (x : AProg) (v : AExpr) : splice (c36 x) 8 (c33 v) = c36 ({ x with Init := v }) := by
 rw [c36, c36]
 all_goals rw [show 8 = 1 + 7 from rfl, splice_skip (Enc.len (e := c22) _)]
 all_goals congr 1
 all_goals rw [show 7 = 1 + 6 from rfl, splice_skip (Enc.len (e := c23) _)]
 all_goals congr 1
 all_goals rw [show 6 = 1 + 5 from rfl, splice_skip (Enc.len (e := c3) _)]
 all_goals congr 1
 all_goals rw [show 5 = 1 + 4 from rfl, splice_skip (Enc.len (e := c3) _)]
 all_goals congr 1
 all_goals rw [show 4 = 3 + 1 from rfl, splice_skip (Enc.len (e := c26) _)]
 all_goals congr 1
 all_goals rw [show 1 = 1 + 0 from rfl, splice_skip (Enc.len (e := c3) _)]
 all_goals congr 1
 all_goals rw [splice_head (by simp [Enc.len (e := c33), len_one, len33])]
 all_goals congr 1
 all_goals exact splice_all (by simp only [Enc.len (e := c33)])
theorem pd72 (l : List AV) (o : Nat) : partOf T.T 72 (l.drop o) 0 = partOf T.T 72 l o := partOf_drop T.t72 (by decide) l o
theorem ld_72_0_72 (x : AData) : partOf T.T 72 (c72 x) 0 = some (.agg (c72 x)) := part_all T.t72 rfl (by rw [len72])
theorem st_72_0_72 (x : AData) (v : AData) : splice (c72 x) 0 (c72 v) = c72 v := by
 exact splice_all (by simp only [Enc.len (e := c72)])
theorem pd92 (l : List AV) (o : Nat) : partOf T.T 92 (l.drop o) 0 = partOf T.T 92 l o := partOf_drop T.t92 (by decide) l o
theorem ld_92_0_92 (x : ACon) : partOf T.T 92 (c92 x) 0 = some (.agg (c92 x)) := part_all T.t92 rfl (by rw [len92])
theorem st_92_0_92 (x : ACon) (v : ACon) : splice (c92 x) 0 (c92 v) = c92 v := by
 exact splice_all (by simp only [Enc.len (e := c92)])
theorem st_92_1_24 (x : ACon) (v : (List AType)) : splice (c92 x) 1 ([.ssl (encs c26 v) v.length false]) = c92 ({ x with Fields := v }) := by
 rw [c92, c92]
 all_goals rw [show 1 = 1 + 0 from rfl, splice_skip (Enc.len (e := c9) _)]
 all_goals congr 1
 all_goals rfl
theorem st_72_2_9 (x : AData) (v : ByteArray) : splice (c72 x) 2 ([.sc (.string v)]) = c72 ({ x with Name := v }) := by
 rw [c72, c72]
 all_goals rw [show 2 = 2 + 0 from rfl, splice_skip (Enc.len (e := c28) _)]
 all_goals congr 1
 all_goals rw [splice_head (by simp [Enc.len (e := c9), len_one])]
 all_goals congr 1
 all_goals rfl
theorem st_72_3_70 (x : AData) (v : (List ACon)) : splice (c72 x) 3 ([.ssl (encs c92 v) v.length false]) = c72 ({ x with Cons := v }) := by
 rw [c72, c72]
 all_goals rw [show 3 = 2 + 1 from rfl, splice_skip (Enc.len (e := c28) _)]
 all_goals congr 1
 all_goals rw [show 1 = 1 + 0 from rfl, splice_skip (Enc.len (e := c9) _)]
 all_goals congr 1
 all_goals rfl
theorem st_36_0_22 (x : AProg) (v : (List AData)) : splice (c36 x) 0 ([.ssl (encs c72 v) v.length false]) = c36 ({ x with Datas := v }) := by
 rw [c36, c36]
 all_goals rw [splice_head (by simp [Enc.len (e := c22), len_one])]
 all_goals congr 1
 all_goals rfl
theorem pd81 (l : List AV) (o : Nat) : partOf T.T 81 (l.drop o) 0 = partOf T.T 81 l o := partOf_drop T.t81 (by decide) l o
theorem ld_81_0_81 (x : AParam) : partOf T.T 81 (c81 x) 0 = some (.agg (c81 x)) := part_all T.t81 rfl (by rw [len81])
theorem st_81_0_81 (x : AParam) (v : AParam) : splice (c81 x) 0 (c81 v) = c81 v := by
 exact splice_all (by simp only [Enc.len (e := c81)])
theorem st_81_1_26 (x : AParam) (v : AType) : splice (c81 x) 1 (c26 v) = c81 ({ x with Type_ := v }) := by
 rw [c81, c81]
 all_goals rw [show 1 = 1 + 0 from rfl, splice_skip (Enc.len (e := c9) _)]
 all_goals congr 1
 all_goals exact splice_all (by simp only [Enc.len (e := c26)])
theorem st_77_2_9 (x : AFun) (v : ByteArray) : splice (c77 x) 2 ([.sc (.string v)]) = c77 ({ x with Name := v }) := by
 rw [c77, c77]
 all_goals rw [show 2 = 2 + 0 from rfl, splice_skip (Enc.len (e := c28) _)]
 all_goals congr 1
 all_goals rw [splice_head (by simp [Enc.len (e := c9), len_one])]
 all_goals congr 1
 all_goals rfl
theorem st_77_3_75 (x : AFun) (v : (List AParam)) : splice (c77 x) 3 ([.ssl (encs c81 v) v.length false]) = c77 ({ x with Params := v }) := by
 rw [c77, c77]
 all_goals rw [show 3 = 2 + 1 from rfl, splice_skip (Enc.len (e := c28) _)]
 all_goals congr 1
 all_goals rw [show 1 = 1 + 0 from rfl, splice_skip (Enc.len (e := c9) _)]
 all_goals congr 1
 all_goals rw [splice_head (by simp [Enc.len (e := c75), len_one])]
 all_goals congr 1
 all_goals rfl
theorem st_77_4_26 (x : AFun) (v : AType) : splice (c77 x) 4 (c26 v) = c77 ({ x with Result := v }) := by
 rw [c77, c77]
 all_goals rw [show 4 = 2 + 2 from rfl, splice_skip (Enc.len (e := c28) _)]
 all_goals congr 1
 all_goals rw [show 2 = 1 + 1 from rfl, splice_skip (Enc.len (e := c9) _)]
 all_goals congr 1
 all_goals rw [show 1 = 1 + 0 from rfl, splice_skip (Enc.len (e := c75) _)]
 all_goals congr 1
 all_goals rw [splice_head (by simp [Enc.len (e := c26), len_one, len26])]
 all_goals congr 1
 all_goals exact splice_all (by simp only [Enc.len (e := c26)])
theorem st_77_7_33 (x : AFun) (v : AExpr) : splice (c77 x) 7 (c33 v) = c77 ({ x with Body := v }) := by
 rw [c77, c77]
 all_goals rw [show 7 = 2 + 5 from rfl, splice_skip (Enc.len (e := c28) _)]
 all_goals congr 1
 all_goals rw [show 5 = 1 + 4 from rfl, splice_skip (Enc.len (e := c9) _)]
 all_goals congr 1
 all_goals rw [show 4 = 1 + 3 from rfl, splice_skip (Enc.len (e := c75) _)]
 all_goals congr 1
 all_goals rw [show 3 = 3 + 0 from rfl, splice_skip (Enc.len (e := c26) _)]
 all_goals congr 1
 all_goals exact splice_all (by simp only [Enc.len (e := c33)])
theorem st_36_1_23 (x : AProg) (v : (List AFun)) : splice (c36 x) 1 ([.ssl (encs c77 v) v.length false]) = c36 ({ x with Funs := v }) := by
 rw [c36, c36]
 all_goals rw [show 1 = 1 + 0 from rfl, splice_skip (Enc.len (e := c22) _)]
 all_goals congr 1
 all_goals rw [splice_head (by simp [Enc.len (e := c23), len_one])]
 all_goals congr 1
 all_goals rfl
theorem ld_83_3_81 (x : AHand) : partOf T.T 81 (c83 x) 3 = some (.agg (c81 x.Param)) := by
 rw [c83]
 rw [show 3 = 2 + 1 from rfl, part_skip T.t81 (Enc.len (e := c28) _)]
 rw [show 1 = 1 + 0 from rfl, part_skip T.t81 (Enc.len (e := c9) _)]
 rw [part_head T.t81 (by decide) (by rw [Enc.len (e := c81)]; decide)]
 exact part_all T.t81 rfl (by rw [len81])
theorem ld_83_7_3 (x : AHand) : partOf T.T 3 (c83 x) 7 = some (.sc (.int .i64 x.Cap)) := by
 rw [c83]
 rw [show 7 = 2 + 5 from rfl, part_skip T.t3 (Enc.len (e := c28) _)]
 rw [show 5 = 1 + 4 from rfl, part_skip T.t3 (Enc.len (e := c9) _)]
 rw [show 4 = 4 + 0 from rfl, part_skip T.t3 (Enc.len (e := c81) _)]
 rw [part_head T.t3 (by decide) (by rw [Enc.len (e := c3)]; decide)]
 rfl
theorem st_83_2_9 (x : AHand) (v : ByteArray) : splice (c83 x) 2 ([.sc (.string v)]) = c83 ({ x with Name := v }) := by
 rw [c83, c83]
 all_goals rw [show 2 = 2 + 0 from rfl, splice_skip (Enc.len (e := c28) _)]
 all_goals congr 1
 all_goals rw [splice_head (by simp [Enc.len (e := c9), len_one])]
 all_goals congr 1
 all_goals rfl
theorem st_83_3_81 (x : AHand) (v : AParam) : splice (c83 x) 3 (c81 v) = c83 ({ x with Param := v }) := by
 rw [c83, c83]
 all_goals rw [show 3 = 2 + 1 from rfl, splice_skip (Enc.len (e := c28) _)]
 all_goals congr 1
 all_goals rw [show 1 = 1 + 0 from rfl, splice_skip (Enc.len (e := c9) _)]
 all_goals congr 1
 all_goals rw [splice_head (by simp [Enc.len (e := c81), len_one, len81])]
 all_goals congr 1
 all_goals exact splice_all (by simp only [Enc.len (e := c81)])
theorem st_83_7_3 (x : AHand) (v : Int) : splice (c83 x) 7 ([.sc (.int .i64 v)]) = c83 ({ x with Cap := v }) := by
 rw [c83, c83]
 all_goals rw [show 7 = 2 + 5 from rfl, splice_skip (Enc.len (e := c28) _)]
 all_goals congr 1
 all_goals rw [show 5 = 1 + 4 from rfl, splice_skip (Enc.len (e := c9) _)]
 all_goals congr 1
 all_goals rw [show 4 = 4 + 0 from rfl, splice_skip (Enc.len (e := c81) _)]
 all_goals congr 1
 all_goals rw [splice_head (by simp [Enc.len (e := c3), len_one])]
 all_goals congr 1
 all_goals rfl
theorem st_83_8_33 (x : AHand) (v : AExpr) : splice (c83 x) 8 (c33 v) = c83 ({ x with Body := v }) := by
 rw [c83, c83]
 all_goals rw [show 8 = 2 + 6 from rfl, splice_skip (Enc.len (e := c28) _)]
 all_goals congr 1
 all_goals rw [show 6 = 1 + 5 from rfl, splice_skip (Enc.len (e := c9) _)]
 all_goals congr 1
 all_goals rw [show 5 = 4 + 1 from rfl, splice_skip (Enc.len (e := c81) _)]
 all_goals congr 1
 all_goals rw [show 1 = 1 + 0 from rfl, splice_skip (Enc.len (e := c3) _)]
 all_goals congr 1
 all_goals exact splice_all (by simp only [Enc.len (e := c33)])
theorem st_36_16_34 (x : AProg) (v : (List AHand)) : splice (c36 x) 16 ([.ssl (encs c83 v) v.length false]) = c36 ({ x with Hands := v }) := by
 rw [c36, c36]
 all_goals rw [show 16 = 1 + 15 from rfl, splice_skip (Enc.len (e := c22) _)]
 all_goals congr 1
 all_goals rw [show 15 = 1 + 14 from rfl, splice_skip (Enc.len (e := c23) _)]
 all_goals congr 1
 all_goals rw [show 14 = 1 + 13 from rfl, splice_skip (Enc.len (e := c3) _)]
 all_goals congr 1
 all_goals rw [show 13 = 1 + 12 from rfl, splice_skip (Enc.len (e := c3) _)]
 all_goals congr 1
 all_goals rw [show 12 = 3 + 9 from rfl, splice_skip (Enc.len (e := c26) _)]
 all_goals congr 1
 all_goals rw [show 9 = 1 + 8 from rfl, splice_skip (Enc.len (e := c3) _)]
 all_goals congr 1
 all_goals rw [show 8 = 8 + 0 from rfl, splice_skip (Enc.len (e := c33) _)]
 all_goals congr 1
 all_goals rfl
theorem st_36_0_36 (x : AProg) (v : AProg) : splice (c36 x) 0 (c36 v) = c36 v := by
 exact splice_all (by simp only [Enc.len (e := c36)])
theorem ld_36_2_3 (x : AProg) : partOf T.T 3 (c36 x) 2 = some (.sc (.int .i64 x.Queue)) := by
 rw [c36]
 rw [show 2 = 1 + 1 from rfl, part_skip T.t3 (Enc.len (e := c22) _)]
 rw [show 1 = 1 + 0 from rfl, part_skip T.t3 (Enc.len (e := c23) _)]
 rw [part_head T.t3 (by decide) (by rw [Enc.len (e := c3)]; decide)]
 rfl
theorem ld_36_3_3 (x : AProg) : partOf T.T 3 (c36 x) 3 = some (.sc (.int .i64 x.Timers)) := by
 rw [c36]
 rw [show 3 = 1 + 2 from rfl, part_skip T.t3 (Enc.len (e := c22) _)]
 rw [show 2 = 1 + 1 from rfl, part_skip T.t3 (Enc.len (e := c23) _)]
 rw [show 1 = 1 + 0 from rfl, part_skip T.t3 (Enc.len (e := c3) _)]
 rw [part_head T.t3 (by decide) (by rw [Enc.len (e := c3)]; decide)]
 rfl
theorem ld_36_7_3 (x : AProg) : partOf T.T 3 (c36 x) 7 = some (.sc (.int .i64 x.Cap)) := by
 rw [c36]
 rw [show 7 = 1 + 6 from rfl, part_skip T.t3 (Enc.len (e := c22) _)]
 rw [show 6 = 1 + 5 from rfl, part_skip T.t3 (Enc.len (e := c23) _)]
 rw [show 5 = 1 + 4 from rfl, part_skip T.t3 (Enc.len (e := c3) _)]
 rw [show 4 = 1 + 3 from rfl, part_skip T.t3 (Enc.len (e := c3) _)]
 rw [show 3 = 3 + 0 from rfl, part_skip T.t3 (Enc.len (e := c26) _)]
 rw [part_head T.t3 (by decide) (by rw [Enc.len (e := c3)]; decide)]
 rfl
theorem ld_26_0_3 (x : AType) : partOf T.T 3 (c26 x) 0 = some (.sc (.int .i64 x.Kind)) := by
 rw [u26]
 rw [part_head T.t3 (by decide) (by rw [Enc.len (e := c3)]; decide)]
 rfl
theorem ld_33_0_3 (x : AExpr) : partOf T.T 3 (c33 x) 0 = some (.sc (.int .i64 x.Kind)) := by
 rw [u33]
 rw [part_head T.t3 (by decide) (by rw [Enc.len (e := c3)]; decide)]
 rfl
theorem ld_33_3_2 (x : AExpr) : partOf T.T 2 (c33 x) 3 = some (.sc (.int .i64 x.Num)) := by
 rw [u33]
 rw [show 3 = 1 + 2 from rfl, part_skip T.t2 (Enc.len (e := c3) _)]
 rw [show 2 = 2 + 0 from rfl, part_skip T.t2 (Enc.len (e := c28) _)]
 rw [part_head T.t2 (by decide) (by rw [Enc.len (e := c2)]; decide)]
 rfl
theorem pd5 (l : List AV) (o : Nat) : partOf T.T 5 (l.drop o) 0 = partOf T.T 5 l o := partOf_drop T.t5 (by decide) l o
theorem ld_39_0_3 (x : APat) : partOf T.T 3 (c39 x) 0 = some (.sc (.int .i64 x.Kind)) := by
 rw [u39]
 rw [part_head T.t3 (by decide) (by rw [Enc.len (e := c3)]; decide)]
 rfl
theorem ld_39_4_2 (x : APat) : partOf T.T 2 (c39 x) 4 = some (.sc (.int .i64 x.Num)) := by
 rw [u39]
 rw [show 4 = 1 + 3 from rfl, part_skip T.t2 (Enc.len (e := c3) _)]
 rw [show 3 = 2 + 1 from rfl, part_skip T.t2 (Enc.len (e := c28) _)]
 rw [show 1 = 1 + 0 from rfl, part_skip T.t2 (Enc.len (e := c9) _)]
 rw [part_head T.t2 (by decide) (by rw [Enc.len (e := c2)]; decide)]
 rfl
theorem ld_33_1_28 (x : AExpr) : partOf T.T 28 (c33 x) 1 = some (.agg (c28 x.At)) := by
 rw [u33]
 rw [show 1 = 1 + 0 from rfl, part_skip T.t28 (Enc.len (e := c3) _)]
 rw [part_head T.t28 (by decide) (by rw [Enc.len (e := c28)]; decide)]
 exact part_all T.t28 rfl (by rw [len28])
theorem eq3 (d : Nat) (x y : Int) : eqT T.T (d + 1) 3 (.sc (.int .i64 x)) (.sc (.int .i64 y)) = some (x == y) := by simp [eqT, T.t3]
theorem ld_28_0_3 (x : APos) : partOf T.T 3 (c28 x) 0 = some (.sc (.int .i64 x.Line)) := by
 rw [c28]
 rw [part_head T.t3 (by decide) (by rw [Enc.len (e := c3)]; decide)]
 rfl
theorem ld_28_1_3 (x : APos) : partOf T.T 3 (c28 x) 1 = some (.sc (.int .i64 x.Col)) := by
 rw [c28]
 rw [show 1 = 1 + 0 from rfl, part_skip T.t3 (Enc.len (e := c3) _)]
 rfl
theorem eq28 (d : Nat) (x y : APos) : eqT T.T (d + 2) 28 (.agg (c28 x)) (.agg (c28 y)) = some ((x.Line == y.Line) && ((x.Col == y.Col))) := by
 simp only [eqT, T.t28, if_true, eqT.eqFs, ld_28_0_3, ld_28_1_3, eq3, eq3]
 simp
theorem eqM28 (x y : APos) : eqT T.T Op.maxDepth 28 (.agg (c28 x)) (.agg (c28 y)) = some ((x.Line == y.Line) && ((x.Col == y.Col))) := eq28 9998 x y
theorem ld_39_1_28 (x : APat) : partOf T.T 28 (c39 x) 1 = some (.agg (c28 x.At)) := by
 rw [u39]
 rw [show 1 = 1 + 0 from rfl, part_skip T.t28 (Enc.len (e := c3) _)]
 rw [part_head T.t28 (by decide) (by rw [Enc.len (e := c28)]; decide)]
 exact part_all T.t28 rfl (by rw [len28])
theorem pd28 (l : List AV) (o : Nat) : partOf T.T 28 (l.drop o) 0 = partOf T.T 28 l o := partOf_drop T.t28 (by decide) l o
theorem ld_72_0_28 (x : AData) : partOf T.T 28 (c72 x) 0 = some (.agg (c28 x.At)) := by
 rw [c72]
 rw [part_head T.t28 (by decide) (by rw [Enc.len (e := c28)]; decide)]
 exact part_all T.t28 rfl (by rw [len28])
theorem ld_77_0_28 (x : AFun) : partOf T.T 28 (c77 x) 0 = some (.agg (c28 x.At)) := by
 rw [c77]
 rw [part_head T.t28 (by decide) (by rw [Enc.len (e := c28)]; decide)]
 exact part_all T.t28 rfl (by rw [len28])
theorem ld_83_0_28 (x : AHand) : partOf T.T 28 (c83 x) 0 = some (.agg (c28 x.At)) := by
 rw [c83]
 rw [part_head T.t28 (by decide) (by rw [Enc.len (e := c28)]; decide)]
 exact part_all T.t28 rfl (by rw [len28])
theorem eq4 (d : Nat) (x y : Bool) : eqT T.T (d + 1) 4 (.sc (.bool x)) (.sc (.bool y)) = some (x == y) := by simp [eqT, T.t4]
theorem eqM4 (x y : Bool) : eqT T.T Op.maxDepth 4 (.sc (.bool x)) (.sc (.bool y)) = some (x == y) := eq4 9999 x y
theorem ldF47 (x : AV) : partOf T.T 47 [x] 0 = some x := rfl
theorem st_153_1_4 (x : ast_shape) (v : Bool) : splice (c153 x) 1 ([.sc (.bool v)]) = c153 ({ x with numbered := v }) := by
 rw [c153, c153]
 all_goals rw [show 1 = 1 + 0 from rfl, splice_skip (Enc.len (e := c4) _)]
 all_goals congr 1
 all_goals rw [splice_head (by simp [Enc.len (e := c4), len_one])]
 all_goals congr 1
 all_goals rfl
theorem st_153_0_153 (x : ast_shape) (v : ast_shape) : splice (c153 x) 0 (c153 v) = c153 v := by
 exact splice_all (by simp only [Enc.len (e := c153)])
theorem ld_153_0_153 (x : ast_shape) : partOf T.T 153 (c153 x) 0 = some (.agg (c153 x)) := part_all T.t153 rfl (by rw [len153])
theorem st_153_2_4 (x : ast_shape) (v : Bool) : splice (c153 x) 2 ([.sc (.bool v)]) = c153 ({ x with bytes := v }) := by
 rw [c153, c153]
 all_goals rw [show 2 = 1 + 1 from rfl, splice_skip (Enc.len (e := c4) _)]
 all_goals congr 1
 all_goals rw [show 1 = 1 + 0 from rfl, splice_skip (Enc.len (e := c4) _)]
 all_goals congr 1
 all_goals rw [splice_head (by simp [Enc.len (e := c4), len_one])]
 all_goals congr 1
 all_goals rfl
theorem st_153_0_4 (x : ast_shape) (v : Bool) : splice (c153 x) 0 ([.sc (.bool v)]) = c153 ({ x with named := v }) := by
 rw [c153, c153]
 all_goals rw [splice_head (by simp [Enc.len (e := c4), len_one])]
 all_goals congr 1
 all_goals rfl
theorem st_153_4_3 (x : ast_shape) (v : Int) : splice (c153 x) 4 ([.sc (.int .i64 v)]) = c153 ({ x with top := v }) := by
 rw [c153, c153]
 all_goals rw [show 4 = 1 + 3 from rfl, splice_skip (Enc.len (e := c4) _)]
 all_goals congr 1
 all_goals rw [show 3 = 1 + 2 from rfl, splice_skip (Enc.len (e := c4) _)]
 all_goals congr 1
 all_goals rw [show 2 = 1 + 1 from rfl, splice_skip (Enc.len (e := c4) _)]
 all_goals congr 1
 all_goals rw [show 1 = 1 + 0 from rfl, splice_skip (Enc.len (e := c3) _)]
 all_goals congr 1
 all_goals rw [splice_head (by simp [Enc.len (e := c3), len_one])]
 all_goals congr 1
 all_goals rfl
theorem st_153_3_3 (x : ast_shape) (v : Int) : splice (c153 x) 3 ([.sc (.int .i64 v)]) = c153 ({ x with least := v }) := by
 rw [c153, c153]
 all_goals rw [show 3 = 1 + 2 from rfl, splice_skip (Enc.len (e := c4) _)]
 all_goals congr 1
 all_goals rw [show 2 = 1 + 1 from rfl, splice_skip (Enc.len (e := c4) _)]
 all_goals congr 1
 all_goals rw [show 1 = 1 + 0 from rfl, splice_skip (Enc.len (e := c4) _)]
 all_goals congr 1
 all_goals rw [splice_head (by simp [Enc.len (e := c3), len_one])]
 all_goals congr 1
 all_goals rfl
theorem st_153_5_4 (x : ast_shape) (v : Bool) : splice (c153 x) 5 ([.sc (.bool v)]) = c153 ({ x with arms := v }) := by
 rw [c153, c153]
 all_goals rw [show 5 = 1 + 4 from rfl, splice_skip (Enc.len (e := c4) _)]
 all_goals congr 1
 all_goals rw [show 4 = 1 + 3 from rfl, splice_skip (Enc.len (e := c4) _)]
 all_goals congr 1
 all_goals rw [show 3 = 1 + 2 from rfl, splice_skip (Enc.len (e := c4) _)]
 all_goals congr 1
 all_goals rw [show 2 = 1 + 1 from rfl, splice_skip (Enc.len (e := c3) _)]
 all_goals congr 1
 all_goals rw [show 1 = 1 + 0 from rfl, splice_skip (Enc.len (e := c3) _)]
 all_goals congr 1
 all_goals rfl
theorem ld_153_0_4 (x : ast_shape) : partOf T.T 4 (c153 x) 0 = some (.sc (.bool x.named)) := by
 rw [c153]
 rw [part_head T.t4 (by decide) (by rw [Enc.len (e := c4)]; decide)]
 rfl
theorem ld_153_1_4 (x : ast_shape) : partOf T.T 4 (c153 x) 1 = some (.sc (.bool x.numbered)) := by
 rw [c153]
 rw [show 1 = 1 + 0 from rfl, part_skip T.t4 (Enc.len (e := c4) _)]
 rw [part_head T.t4 (by decide) (by rw [Enc.len (e := c4)]; decide)]
 rfl
theorem ld_153_2_4 (x : ast_shape) : partOf T.T 4 (c153 x) 2 = some (.sc (.bool x.bytes)) := by
 rw [c153]
 rw [show 2 = 1 + 1 from rfl, part_skip T.t4 (Enc.len (e := c4) _)]
 rw [show 1 = 1 + 0 from rfl, part_skip T.t4 (Enc.len (e := c4) _)]
 rw [part_head T.t4 (by decide) (by rw [Enc.len (e := c4)]; decide)]
 rfl
theorem ld_153_5_4 (x : ast_shape) : partOf T.T 4 (c153 x) 5 = some (.sc (.bool x.arms)) := by
 rw [c153]
 rw [show 5 = 1 + 4 from rfl, part_skip T.t4 (Enc.len (e := c4) _)]
 rw [show 4 = 1 + 3 from rfl, part_skip T.t4 (Enc.len (e := c4) _)]
 rw [show 3 = 1 + 2 from rfl, part_skip T.t4 (Enc.len (e := c4) _)]
 rw [show 2 = 1 + 1 from rfl, part_skip T.t4 (Enc.len (e := c3) _)]
 rw [show 1 = 1 + 0 from rfl, part_skip T.t4 (Enc.len (e := c3) _)]
 rfl
theorem ldF157 (x : AV) : partOf T.T 157 [x] 0 = some x := rfl
theorem ld_153_3_3 (x : ast_shape) : partOf T.T 3 (c153 x) 3 = some (.sc (.int .i64 x.least)) := by
 rw [c153]
 rw [show 3 = 1 + 2 from rfl, part_skip T.t3 (Enc.len (e := c4) _)]
 rw [show 2 = 1 + 1 from rfl, part_skip T.t3 (Enc.len (e := c4) _)]
 rw [show 1 = 1 + 0 from rfl, part_skip T.t3 (Enc.len (e := c4) _)]
 rw [part_head T.t3 (by decide) (by rw [Enc.len (e := c3)]; decide)]
 rfl
theorem ld_153_4_3 (x : ast_shape) : partOf T.T 3 (c153 x) 4 = some (.sc (.int .i64 x.top)) := by
 rw [c153]
 rw [show 4 = 1 + 3 from rfl, part_skip T.t3 (Enc.len (e := c4) _)]
 rw [show 3 = 1 + 2 from rfl, part_skip T.t3 (Enc.len (e := c4) _)]
 rw [show 2 = 1 + 1 from rfl, part_skip T.t3 (Enc.len (e := c4) _)]
 rw [show 1 = 1 + 0 from rfl, part_skip T.t3 (Enc.len (e := c3) _)]
 rw [part_head T.t3 (by decide) (by rw [Enc.len (e := c3)]; decide)]
 rfl
theorem ldF45 (x : AV) : partOf T.T 45 [x] 0 = some x := rfl
theorem ldF46 (x : AV) : partOf T.T 46 [x] 0 = some x := rfl
theorem ldF73 (x : AV) : partOf T.T 73 [x] 0 = some x := rfl
theorem ldF105 (x : AV) : partOf T.T 105 [x] 0 = some x := rfl
theorem ldF78 (x : AV) : partOf T.T 78 [x] 0 = some x := rfl
theorem ldF86 (x : AV) : partOf T.T 86 [x] 0 = some x := rfl
theorem ldF84 (x : AV) : partOf T.T 84 [x] 0 = some x := rfl
end Go.Proofs.YtappiofmkoelnaaGreatDoor.M
end
