/-
  Types, as Lean has them, and their cells.
-/
import Derived.Test.YtcdafogfmijcpaaTab
import Derived.Test.YtcdafogfmijcpaaAhX
import Derived.Test.YtcdafogfmijcpaaAhS
namespace Go.Proofs.Ytcdafogfmijcpaa.M
open Go.Proofs.YtcdafogfmijcpaaW.Ah Go.Proofs.Ytcdafogfmijcpaa
set_option linter.unusedVariables false
set_option linter.unusedSimpArgs false
set_option maxRecDepth 8000
abbrev c9 : ByteArray → List AV := fun x => [.sc (.string x)]
instance : Enc c9 1 := ⟨fun _ => rfl⟩
theorem ok9 (x : ByteArray) : (c9 x).all cellOk = true := rfl
theorem fr9 (x : ByteArray) : freeL (c9 x) = true := rfl
abbrev c3 : Int → List AV := fun x => [.sc (.int .i64 x)]
instance : Enc c3 1 := ⟨fun _ => rfl⟩
theorem ok3 (x : Int) : (c3 x).all cellOk = true := rfl
theorem fr3 (x : Int) : freeL (c3 x) = true := rfl
structure api_Inst where
  Op : Int
  A : Int
  B : Int
  C : Int

def c44 (x : api_Inst) : List AV := c3 x.Op ++ (c3 x.A ++ (c3 x.B ++ (c3 x.C)))
instance : Enc c44 4 := ⟨fun x => by simp only [c44, List.length_append, Enc.len (e := c3)]⟩
theorem len44 (x : api_Inst) : (c44 x).length = 4 := Enc.len (e := c44) x
theorem ok44 (x : api_Inst) : (c44 x).all cellOk = true := by simp only [c44, List.all_append, ok3] <;> rfl
theorem fr44 (x : api_Inst) : freeL (c44 x) = true := by simp only [c44, freeL_append, fr3] <;> rfl
abbrev c39 : (List api_Inst) → List AV := fun x => [.ssl (encs c44 x) x.length false]
instance : Enc c39 1 := ⟨fun _ => rfl⟩
theorem ok39 (x : (List api_Inst)) : (c39 x).all cellOk = true := rfl
theorem fr39 (x : (List api_Inst)) : freeL (c39 x) = true := by simp [freeL, free, freeL_encs fr44]
structure api_Func where
  Name : ByteArray
  Params : Int
  Slots : Int
  Code : (List api_Inst)

def c41 (x : api_Func) : List AV := c9 x.Name ++ (c3 x.Params ++ (c3 x.Slots ++ (c39 x.Code)))
instance : Enc c41 4 := ⟨fun x => by simp only [c41, List.length_append, Enc.len (e := c3), Enc.len (e := c9), Enc.len (e := c39)]⟩
theorem len41 (x : api_Func) : (c41 x).length = 4 := Enc.len (e := c41) x
theorem ok41 (x : api_Func) : (c41 x).all cellOk = true := by simp only [c41, List.all_append, ok3, ok9, ok39] <;> rfl
theorem fr41 (x : api_Func) : freeL (c41 x) = true := by simp only [c41, freeL_append, fr3, fr9, fr39] <;> rfl
abbrev c22 : (List api_Func) → List AV := fun x => [.ssl (encs c41 x) x.length false]
instance : Enc c22 1 := ⟨fun _ => rfl⟩
theorem ok22 (x : (List api_Func)) : (c22 x).all cellOk = true := rfl
theorem fr22 (x : (List api_Func)) : freeL (c22 x) = true := by simp [freeL, free, freeL_encs fr41]
abbrev c5 : Int → List AV := fun x => [.sc (.int .u8 x)]
instance : Enc c5 1 := ⟨fun _ => rfl⟩
theorem ok5 (x : Int) : (c5 x).all cellOk = true := rfl
theorem fr5 (x : Int) : freeL (c5 x) = true := rfl
abbrev c51 : (List Int) → List AV := fun x => [.ssl (encs c5 x) x.length false]
instance : Enc c51 1 := ⟨fun _ => rfl⟩
theorem ok51 (x : (List Int)) : (c51 x).all cellOk = true := rfl
theorem fr51 (x : (List Int)) : freeL (c51 x) = true := by simp [freeL, free, freeL_encs fr5]
abbrev c23 : (List (List Int)) → List AV := fun x => [.ssl (encs c51 x) x.length false]
instance : Enc c23 1 := ⟨fun _ => rfl⟩
theorem ok23 (x : (List (List Int))) : (c23 x).all cellOk = true := rfl
theorem fr23 (x : (List (List Int))) : freeL (c23 x) = true := by simp [freeL, free, freeL_encs fr51]
abbrev c47 : (List Int) → List AV := fun x => [.ssl (encs c3 x) x.length false]
instance : Enc c47 1 := ⟨fun _ => rfl⟩
theorem ok47 (x : (List Int)) : (c47 x).all cellOk = true := rfl
theorem fr47 (x : (List Int)) : freeL (c47 x) = true := by simp [freeL, free, freeL_encs fr3]
abbrev c24 : (List (List Int)) → List AV := fun x => [.ssl (encs c47 x) x.length false]
instance : Enc c24 1 := ⟨fun _ => rfl⟩
theorem ok24 (x : (List (List Int))) : (c24 x).all cellOk = true := rfl
theorem fr24 (x : (List (List Int))) : freeL (c24 x) = true := by simp [freeL, free, freeL_encs fr47]
structure api_Code where
  Funs : (List api_Func)
  Texts : (List (List Int))
  Tables : (List (List Int))

def c26 (x : api_Code) : List AV := c22 x.Funs ++ (c23 x.Texts ++ (c24 x.Tables))
instance : Enc c26 3 := ⟨fun x => by simp only [c26, List.length_append, Enc.len (e := c22), Enc.len (e := c23), Enc.len (e := c24)]⟩
theorem len26 (x : api_Code) : (c26 x).length = 3 := Enc.len (e := c26) x
theorem ok26 (x : api_Code) : (c26 x).all cellOk = true := by simp only [c26, List.all_append, ok22, ok23, ok24] <;> rfl
theorem fr26 (x : api_Code) : freeL (c26 x) = true := by simp only [c26, freeL_append, fr22, fr23, fr24] <;> rfl
abbrev c4 : Bool → List AV := fun x => [.sc (.bool x)]
instance : Enc c4 1 := ⟨fun _ => rfl⟩
theorem ok4 (x : Bool) : (c4 x).all cellOk = true := rfl
theorem fr4 (x : Bool) : freeL (c4 x) = true := rfl
abbrev c42 : (List Bool) → List AV := fun x => [.ssl (encs c4 x) x.length false]
instance : Enc c42 1 := ⟨fun _ => rfl⟩
theorem ok42 (x : (List Bool)) : (c42 x).all cellOk = true := rfl
theorem fr42 (x : (List Bool)) : freeL (c42 x) = true := by simp [freeL, free, freeL_encs fr4]
abbrev c36 : (List (List Bool)) → List AV := fun x => [.ssl (encs c42 x) x.length false]
instance : Enc c36 1 := ⟨fun _ => rfl⟩
theorem ok36 (x : (List (List Bool))) : (c36 x).all cellOk = true := rfl
theorem fr36 (x : (List (List Bool))) : freeL (c36 x) = true := by simp [freeL, free, freeL_encs fr42]
abbrev c29 : (List (List (List Bool))) → List AV := fun x => [.ssl (encs c36 x) x.length false]
instance : Enc c29 1 := ⟨fun _ => rfl⟩
theorem ok29 (x : (List (List (List Bool)))) : (c29 x).all cellOk = true := rfl
theorem fr29 (x : (List (List (List Bool)))) : freeL (c29 x) = true := by simp [freeL, free, freeL_encs fr36]
abbrev c30 : Int → List AV := fun x => [.sc (.int .i64 x)]
instance : Enc c30 1 := ⟨fun _ => rfl⟩
theorem ok30 (x : Int) : (c30 x).all cellOk = true := rfl
theorem fr30 (x : Int) : freeL (c30 x) = true := rfl
theorem ld_26_0_22 (x : api_Code) : partOf T.T 22 (c26 x) 0 = some (.ssl (encs c41 x.Funs) x.Funs.length false) := by
  rw [c26]
  rw [part_head T.t22 (by decide) (by rw [Enc.len (e := c22)]; decide)]
  rfl
theorem ld_26_1_23 (x : api_Code) : partOf T.T 23 (c26 x) 1 = some (.ssl (encs c51 x.Texts) x.Texts.length false) := by
  rw [c26]
  rw [show 1 = 1 + 0 from rfl, part_skip T.t23 (Enc.len (e := c22) _)]
  rw [part_head T.t23 (by decide) (by rw [Enc.len (e := c23)]; decide)]
  rfl
theorem ld_26_2_24 (x : api_Code) : partOf T.T 24 (c26 x) 2 = some (.ssl (encs c47 x.Tables) x.Tables.length false) := by
  rw [c26]
  rw [show 2 = 1 + 1 from rfl, part_skip T.t24 (Enc.len (e := c22) _)]
  rw [show 1 = 1 + 0 from rfl, part_skip T.t24 (Enc.len (e := c23) _)]
  rfl
theorem pd41 (l : List AV) (o : Nat) : partOf T.T 41 (l.drop o) 0 = partOf T.T 41 l o := partOf_drop T.t41 (by decide) l o
theorem ld_41_0_41 (x : api_Func) : partOf T.T 41 (c41 x) 0 = some (.agg (c41 x)) := part_all T.t41 rfl (by rw [len41])
theorem ld_41_0_9 (x : api_Func) : partOf T.T 9 (c41 x) 0 = some (.sc (.string x.Name)) := by
  rw [c41]
  rw [part_head T.t9 (by decide) (by rw [Enc.len (e := c9)]; decide)]
  rfl
theorem ld_41_1_3 (x : api_Func) : partOf T.T 3 (c41 x) 1 = some (.sc (.int .i64 x.Params)) := by
  rw [c41]
  rw [show 1 = 1 + 0 from rfl, part_skip T.t3 (Enc.len (e := c9) _)]
  rw [part_head T.t3 (by decide) (by rw [Enc.len (e := c3)]; decide)]
  rfl
theorem ld_41_2_3 (x : api_Func) : partOf T.T 3 (c41 x) 2 = some (.sc (.int .i64 x.Slots)) := by
  rw [c41]
  rw [show 2 = 1 + 1 from rfl, part_skip T.t3 (Enc.len (e := c9) _)]
  rw [show 1 = 1 + 0 from rfl, part_skip T.t3 (Enc.len (e := c3) _)]
  rw [part_head T.t3 (by decide) (by rw [Enc.len (e := c3)]; decide)]
  rfl
theorem ld_41_3_39 (x : api_Func) : partOf T.T 39 (c41 x) 3 = some (.ssl (encs c44 x.Code) x.Code.length false) := by
  rw [c41]
  rw [show 3 = 1 + 2 from rfl, part_skip T.t39 (Enc.len (e := c9) _)]
  rw [show 2 = 1 + 1 from rfl, part_skip T.t39 (Enc.len (e := c3) _)]
  rw [show 1 = 1 + 0 from rfl, part_skip T.t39 (Enc.len (e := c3) _)]
  rfl
theorem pd44 (l : List AV) (o : Nat) : partOf T.T 44 (l.drop o) 0 = partOf T.T 44 l o := partOf_drop T.t44 (by decide) l o
theorem ld_44_0_44 (x : api_Inst) : partOf T.T 44 (c44 x) 0 = some (.agg (c44 x)) := part_all T.t44 rfl (by rw [len44])
theorem pd51 (l : List AV) (o : Nat) : partOf T.T 51 (l.drop o) 0 = partOf T.T 51 l o := partOf_drop T.t51 (by decide) l o
theorem pd47 (l : List AV) (o : Nat) : partOf T.T 47 (l.drop o) 0 = partOf T.T 47 l o := partOf_drop T.t47 (by decide) l o
theorem pd3 (l : List AV) (o : Nat) : partOf T.T 3 (l.drop o) 0 = partOf T.T 3 l o := partOf_drop T.t3 (by decide) l o
theorem ld_26_0_26 (x : api_Code) : partOf T.T 26 (c26 x) 0 = some (.agg (c26 x)) := part_all T.t26 rfl (by rw [len26])
theorem pd39 (l : List AV) (o : Nat) : partOf T.T 39 (l.drop o) 0 = partOf T.T 39 l o := partOf_drop T.t39 (by decide) l o
theorem pd9 (l : List AV) (o : Nat) : partOf T.T 9 (l.drop o) 0 = partOf T.T 9 l o := partOf_drop T.t9 (by decide) l o
theorem st_44_0_3 (x : api_Inst) (v : Int) : splice (c44 x) 0 ([.sc (.int .i64 v)]) = c44 ({ x with Op := v }) := by
  rw [c44, c44]
  all_goals rw [splice_head (by simp [Enc.len (e := c3), len_one])]
  all_goals congr 1
  all_goals rfl
theorem st_41_1_3 (x : api_Func) (v : Int) : splice (c41 x) 1 ([.sc (.int .i64 v)]) = c41 ({ x with Params := v }) := by
  rw [c41, c41]
  all_goals rw [show 1 = 1 + 0 from rfl, splice_skip (Enc.len (e := c9) _)]
  all_goals congr 1
  all_goals rw [splice_head (by simp [Enc.len (e := c3), len_one])]
  all_goals congr 1
  all_goals rfl
theorem st_41_2_3 (x : api_Func) (v : Int) : splice (c41 x) 2 ([.sc (.int .i64 v)]) = c41 ({ x with Slots := v }) := by
  rw [c41, c41]
  all_goals rw [show 2 = 1 + 1 from rfl, splice_skip (Enc.len (e := c9) _)]
  all_goals congr 1
  all_goals rw [show 1 = 1 + 0 from rfl, splice_skip (Enc.len (e := c3) _)]
  all_goals congr 1
  all_goals rw [splice_head (by simp [Enc.len (e := c3), len_one])]
  all_goals congr 1
  all_goals rfl
theorem st_41_3_39 (x : api_Func) (v : (List api_Inst)) : splice (c41 x) 3 ([.ssl (encs c44 v) v.length false]) = c41 ({ x with Code := v }) := by
  rw [c41, c41]
  all_goals rw [show 3 = 1 + 2 from rfl, splice_skip (Enc.len (e := c9) _)]
  all_goals congr 1
  all_goals rw [show 2 = 1 + 1 from rfl, splice_skip (Enc.len (e := c3) _)]
  all_goals congr 1
  all_goals rw [show 1 = 1 + 0 from rfl, splice_skip (Enc.len (e := c3) _)]
  all_goals congr 1
  all_goals rfl
theorem st_41_0_41 (x : api_Func) (v : api_Func) : splice (c41 x) 0 (c41 v) = c41 v := by
  exact splice_all (by simp only [Enc.len (e := c41)])
theorem st_26_0_22 (x : api_Code) (v : (List api_Func)) : splice (c26 x) 0 ([.ssl (encs c41 v) v.length false]) = c26 ({ x with Funs := v }) := by
  rw [c26, c26]
  all_goals rw [splice_head (by simp [Enc.len (e := c22), len_one])]
  all_goals congr 1
  all_goals rfl
theorem pd36 (l : List AV) (o : Nat) : partOf T.T 36 (l.drop o) 0 = partOf T.T 36 l o := partOf_drop T.t36 (by decide) l o
theorem pd42 (l : List AV) (o : Nat) : partOf T.T 42 (l.drop o) 0 = partOf T.T 42 l o := partOf_drop T.t42 (by decide) l o
theorem pt42 (l : List AV) : partOf T.T 42 l.tail 0 = partOf T.T 42 l 1 := by rw [← List.drop_one]; exact pd42 l 1
theorem st_26_0_26 (x : api_Code) (v : api_Code) : splice (c26 x) 0 (c26 v) = c26 v := by
  exact splice_all (by simp only [Enc.len (e := c26)])
theorem st_41_0_9 (x : api_Func) (v : ByteArray) : splice (c41 x) 0 ([.sc (.string v)]) = c41 ({ x with Name := v }) := by
  rw [c41, c41]
  all_goals rw [splice_head (by simp [Enc.len (e := c9), len_one])]
  all_goals congr 1
  all_goals rfl
theorem st_26_1_23 (x : api_Code) (v : (List (List Int))) : splice (c26 x) 1 ([.ssl (encs c51 v) v.length false]) = c26 ({ x with Texts := v }) := by
  rw [c26, c26]
  all_goals rw [show 1 = 1 + 0 from rfl, splice_skip (Enc.len (e := c22) _)]
  all_goals congr 1
  all_goals rw [splice_head (by simp [Enc.len (e := c23), len_one])]
  all_goals congr 1
  all_goals rfl
theorem st_26_2_24 (x : api_Code) (v : (List (List Int))) : splice (c26 x) 2 ([.ssl (encs c47 v) v.length false]) = c26 ({ x with Tables := v }) := by
  rw [c26, c26]
  all_goals rw [show 2 = 1 + 1 from rfl, splice_skip (Enc.len (e := c22) _)]
  all_goals congr 1
  all_goals rw [show 1 = 1 + 0 from rfl, splice_skip (Enc.len (e := c23) _)]
  all_goals congr 1
  all_goals rfl
theorem pd4 (l : List AV) (o : Nat) : partOf T.T 4 (l.drop o) 0 = partOf T.T 4 l o := partOf_drop T.t4 (by decide) l o
theorem eq4 (d : Nat) (x y : Bool) : eqT T.T (d + 1) 4 (.sc (.bool x)) (.sc (.bool y)) = some (x == y) := by simp [eqT, T.t4]
theorem eqM4 (x y : Bool) : eqT T.T Op.maxDepth 4 (.sc (.bool x)) (.sc (.bool y)) = some (x == y) := eq4 9999 x y
end Go.Proofs.Ytcdafogfmijcpaa.M
