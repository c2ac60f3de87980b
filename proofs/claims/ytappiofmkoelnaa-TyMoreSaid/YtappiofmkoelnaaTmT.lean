/-
  Types, as Lean has them, and their cells.
-/
import Derived.Test.YtappiofmkoelnaaTab
import Derived.Test.YtappiofmkoelnaaAhX
import Derived.Test.YtappiofmkoelnaaAhS
namespace Go.Proofs.Ytappiofmkoelnaa.M
open Go.Proofs.YtappiofmkoelnaaW.Ah Go.Proofs.Ytappiofmkoelnaa
set_option linter.unusedVariables false
set_option linter.unusedSimpArgs false
set_option maxRecDepth 8000
abbrev c3 : Int → List AV := fun x => [.sc (.int .i64 x)]
instance : Enc c3 1 := ⟨fun _ => rfl⟩
theorem ok3 (x : Int) : (c3 x).all cellOk = true := rfl
theorem fr3 (x : Int) : freeL (c3 x) = true := rfl
structure api_Pos where
  Line : Int
  Col : Int

def c29 (x : api_Pos) : List AV := c3 x.Line ++ (c3 x.Col)
instance : Enc c29 2 := ⟨fun x => by simp only [c29, List.length_append, Enc.len (e := c3)]⟩
theorem len29 (x : api_Pos) : (c29 x).length = 2 := Enc.len (e := c29) x
theorem ok29 (x : api_Pos) : (c29 x).all cellOk = true := by simp only [c29, List.all_append, ok3] <;> rfl
theorem fr29 (x : api_Pos) : freeL (c29 x) = true := by simp only [c29, freeL_append, fr3] <;> rfl
abbrev c9 : ByteArray → List AV := fun x => [.sc (.string x)]
instance : Enc c9 1 := ⟨fun _ => rfl⟩
theorem ok9 (x : ByteArray) : (c9 x).all cellOk = true := rfl
theorem fr9 (x : ByteArray) : freeL (c9 x) = true := rfl
structure api_Type where
  Kind : Int
  Name : ByteArray
  Parts : (List api_Type)
mutual
def c40 : api_Type → List AV
  | ⟨x0, x1, x2⟩ => c3 x0 ++ (c9 x1 ++ ([.ssl (l40 x2) x2.length false]))
def l40 : List api_Type → List AV
  | [] => []
  | x :: xs => c40 x ++ l40 xs
end
theorem l40_eq : ∀ xs : List api_Type, l40 xs = encs c40 xs
  | [] => by rw [l40, encs_nil]
  | x :: xs => by rw [l40, encs_cons, l40_eq xs]
abbrev c33 : (List api_Type) → List AV := fun x => [.ssl (encs c40 x) x.length false]
instance : Enc c33 1 := ⟨fun _ => rfl⟩
theorem ok33 (x : (List api_Type)) : (c33 x).all cellOk = true := rfl
theorem u40 (x : api_Type) : c40 x = c3 x.Kind ++ (c9 x.Name ++ (c33 x.Parts)) := by
  cases x; simp only [c40, l40_eq]
instance : Enc c40 3 := ⟨fun x => by rw [u40]; simp only [List.length_append, Enc.len (e := c3), Enc.len (e := c9), Enc.len (e := c33)]⟩
theorem len40 (x : api_Type) : (c40 x).length = 3 := Enc.len (e := c40) x
theorem ok40 (x : api_Type) : (c40 x).all cellOk = true := by rw [u40]; simp only [List.all_append, ok3, ok9, ok33]; rfl
mutual
theorem fr40 : ∀ x : api_Type, freeL (c40 x) = true
  | ⟨x0, x1, x2⟩ => by rw [c40]; simp only [freeL_append, fr3, fr9]; simp [freeL, free, fl40 x2]
theorem fl40 : ∀ xs : List api_Type, freeL (l40 xs) = true
  | [] => by rw [l40]; rfl
  | x :: xs => by rw [l40, freeL_append, fr40 x, fl40 xs]; rfl
end
theorem fr33 (x : (List api_Type)) : freeL (c33 x) = true := by simp [freeL, free, freeL_encs fr40]
structure api_Con where
  Name : ByteArray
  Fields : (List api_Type)

def c35 (x : api_Con) : List AV := c9 x.Name ++ (c33 x.Fields)
instance : Enc c35 2 := ⟨fun x => by simp only [c35, List.length_append, Enc.len (e := c9), Enc.len (e := c33)]⟩
theorem len35 (x : api_Con) : (c35 x).length = 2 := Enc.len (e := c35) x
theorem ok35 (x : api_Con) : (c35 x).all cellOk = true := by simp only [c35, List.all_append, ok9, ok33] <;> rfl
theorem fr35 (x : api_Con) : freeL (c35 x) = true := by simp only [c35, freeL_append, fr9, fr33] <;> rfl
abbrev c30 : (List api_Con) → List AV := fun x => [.ssl (encs c35 x) x.length false]
instance : Enc c30 1 := ⟨fun _ => rfl⟩
theorem ok30 (x : (List api_Con)) : (c30 x).all cellOk = true := rfl
theorem fr30 (x : (List api_Con)) : freeL (c30 x) = true := by simp [freeL, free, freeL_encs fr35]
structure api_Data where
  At : api_Pos
  Name : ByteArray
  Cons : (List api_Con)

def c32 (x : api_Data) : List AV := c29 x.At ++ (c9 x.Name ++ (c30 x.Cons))
instance : Enc c32 4 := ⟨fun x => by simp only [c32, List.length_append, Enc.len (e := c9), Enc.len (e := c29), Enc.len (e := c30)]⟩
theorem len32 (x : api_Data) : (c32 x).length = 4 := Enc.len (e := c32) x
theorem ok32 (x : api_Data) : (c32 x).all cellOk = true := by simp only [c32, List.all_append, ok9, ok29, ok30] <;> rfl
theorem fr32 (x : api_Data) : freeL (c32 x) = true := by simp only [c32, freeL_append, fr9, fr29, fr30] <;> rfl
abbrev c22 : (List api_Data) → List AV := fun x => [.ssl (encs c32 x) x.length false]
instance : Enc c22 1 := ⟨fun _ => rfl⟩
theorem ok22 (x : (List api_Data)) : (c22 x).all cellOk = true := rfl
theorem fr22 (x : (List api_Data)) : freeL (c22 x) = true := by simp [freeL, free, freeL_encs fr32]
abbrev c4 : Bool → List AV := fun x => [.sc (.bool x)]
instance : Enc c4 1 := ⟨fun _ => rfl⟩
theorem ok4 (x : Bool) : (c4 x).all cellOk = true := rfl
theorem fr4 (x : Bool) : freeL (c4 x) = true := rfl
abbrev c37 : (List Bool) → List AV := fun x => [.ssl (encs c4 x) x.length false]
instance : Enc c37 1 := ⟨fun _ => rfl⟩
theorem ok37 (x : (List Bool)) : (c37 x).all cellOk = true := rfl
theorem fr37 (x : (List Bool)) : freeL (c37 x) = true := by simp [freeL, free, freeL_encs fr4]
theorem pd9 (l : List AV) (o : Nat) : partOf T.T 9 (l.drop o) 0 = partOf T.T 9 l o := partOf_drop T.t9 (by decide) l o
theorem ld_32_2_9 (x : api_Data) : partOf T.T 9 (c32 x) 2 = some (.sc (.string x.Name)) := by
  rw [c32]
  rw [show 2 = 2 + 0 from rfl, part_skip T.t9 (Enc.len (e := c29) _)]
  rw [part_head T.t9 (by decide) (by rw [Enc.len (e := c9)]; decide)]
  rfl
theorem pd30 (l : List AV) (o : Nat) : partOf T.T 30 (l.drop o) 0 = partOf T.T 30 l o := partOf_drop T.t30 (by decide) l o
theorem ld_32_3_30 (x : api_Data) : partOf T.T 30 (c32 x) 3 = some (.ssl (encs c35 x.Cons) x.Cons.length false) := by
  rw [c32]
  rw [show 3 = 2 + 1 from rfl, part_skip T.t30 (Enc.len (e := c29) _)]
  rw [show 1 = 1 + 0 from rfl, part_skip T.t30 (Enc.len (e := c9) _)]
  rfl
theorem ld_35_0_9 (x : api_Con) : partOf T.T 9 (c35 x) 0 = some (.sc (.string x.Name)) := by
  rw [c35]
  rw [part_head T.t9 (by decide) (by rw [Enc.len (e := c9)]; decide)]
  rfl
theorem pd33 (l : List AV) (o : Nat) : partOf T.T 33 (l.drop o) 0 = partOf T.T 33 l o := partOf_drop T.t33 (by decide) l o
theorem ld_35_1_33 (x : api_Con) : partOf T.T 33 (c35 x) 1 = some (.ssl (encs c40 x.Fields) x.Fields.length false) := by
  rw [c35]
  rw [show 1 = 1 + 0 from rfl, part_skip T.t33 (Enc.len (e := c9) _)]
  rfl
theorem st_40_1_9 (x : api_Type) (v : ByteArray) : splice (c40 x) 1 ([.sc (.string v)]) = c40 ({ x with Name := v }) := by
  rw [u40, u40]
  all_goals rw [show 1 = 1 + 0 from rfl, splice_skip (Enc.len (e := c3) _)]
  all_goals congr 1
  all_goals rw [splice_head (by simp [Enc.len (e := c9), len_one])]
  all_goals congr 1
  all_goals rfl
theorem st_40_2_33 (x : api_Type) (v : (List api_Type)) : splice (c40 x) 2 ([.ssl (encs c40 v) v.length false]) = c40 ({ x with Parts := v }) := by
  rw [u40, u40]
  all_goals rw [show 2 = 1 + 1 from rfl, splice_skip (Enc.len (e := c3) _)]
  all_goals congr 1
  all_goals rw [show 1 = 1 + 0 from rfl, splice_skip (Enc.len (e := c9) _)]
  all_goals congr 1
  all_goals rfl
theorem ld_40_1_9 (x : api_Type) : partOf T.T 9 (c40 x) 1 = some (.sc (.string x.Name)) := by
  rw [u40]
  rw [show 1 = 1 + 0 from rfl, part_skip T.t9 (Enc.len (e := c3) _)]
  rw [part_head T.t9 (by decide) (by rw [Enc.len (e := c9)]; decide)]
  rfl
theorem ld_40_2_33 (x : api_Type) : partOf T.T 33 (c40 x) 2 = some (.ssl (encs c40 x.Parts) x.Parts.length false) := by
  rw [u40]
  rw [show 2 = 1 + 1 from rfl, part_skip T.t33 (Enc.len (e := c3) _)]
  rw [show 1 = 1 + 0 from rfl, part_skip T.t33 (Enc.len (e := c9) _)]
  rfl
theorem pd40 (l : List AV) (o : Nat) : partOf T.T 40 (l.drop o) 0 = partOf T.T 40 l o := partOf_drop T.t40 (by decide) l o
theorem ld_40_0_40 (x : api_Type) : partOf T.T 40 (c40 x) 0 = some (.agg (c40 x)) := part_all T.t40 rfl (by rw [len40])
theorem pd32 (l : List AV) (o : Nat) : partOf T.T 32 (l.drop o) 0 = partOf T.T 32 l o := partOf_drop T.t32 (by decide) l o
theorem ld_32_0_32 (x : api_Data) : partOf T.T 32 (c32 x) 0 = some (.agg (c32 x)) := part_all T.t32 rfl (by rw [len32])
theorem st_32_0_32 (x : api_Data) (v : api_Data) : splice (c32 x) 0 (c32 v) = c32 v := by
  exact splice_all (by simp only [Enc.len (e := c32)])
theorem pd35 (l : List AV) (o : Nat) : partOf T.T 35 (l.drop o) 0 = partOf T.T 35 l o := partOf_drop T.t35 (by decide) l o
theorem ld_35_0_35 (x : api_Con) : partOf T.T 35 (c35 x) 0 = some (.agg (c35 x)) := part_all T.t35 rfl (by rw [len35])
theorem st_35_0_35 (x : api_Con) (v : api_Con) : splice (c35 x) 0 (c35 v) = c35 v := by
  exact splice_all (by simp only [Enc.len (e := c35)])
theorem st_40_0_40 (x : api_Type) (v : api_Type) : splice (c40 x) 0 (c40 v) = c40 v := by
  exact splice_all (by simp only [Enc.len (e := c40)])
theorem ld_40_0_3 (x : api_Type) : partOf T.T 3 (c40 x) 0 = some (.sc (.int .i64 x.Kind)) := by
  rw [u40]
  rw [part_head T.t3 (by decide) (by rw [Enc.len (e := c3)]; decide)]
  rfl
theorem ld_22_0_22 (x : (List api_Data)) : partOf T.T 22 (c22 x) 0 = some (.ssl (encs c32 x) x.length false) := rfl
theorem ld_9_0_9 (x : ByteArray) : partOf T.T 9 (c9 x) 0 = some (.sc (.string x)) := rfl
theorem pd22 (l : List AV) (o : Nat) : partOf T.T 22 (l.drop o) 0 = partOf T.T 22 l o := partOf_drop T.t22 (by decide) l o
theorem pd4 (l : List AV) (o : Nat) : partOf T.T 4 (l.drop o) 0 = partOf T.T 4 l o := partOf_drop T.t4 (by decide) l o
theorem eq4 (d : Nat) (x y : Bool) : eqT T.T (d + 1) 4 (.sc (.bool x)) (.sc (.bool y)) = some (x == y) := by simp [eqT, T.t4]
theorem eqM4 (x y : Bool) : eqT T.T Op.maxDepth 4 (.sc (.bool x)) (.sc (.bool y)) = some (x == y) := eq4 9999 x y
end Go.Proofs.Ytappiofmkoelnaa.M
