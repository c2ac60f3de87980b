/-
  Types, as Lean has them, and their cells.
-/
import Derived.Test.YtappiofmkoelnaaTab
import Derived.Test.YtappiofmkoelnaaAhX
namespace Go.Proofs.Ytappiofmkoelnaa.M
open Go.Proofs.YtappiofmkoelnaaW.Ah Go.Proofs.Ytappiofmkoelnaa
set_option linter.unusedVariables false
set_option linter.unusedSimpArgs false
set_option maxRecDepth 8000
abbrev c3 : Int → List AV := fun x => [.sc (.int .i64 x)]
instance : Enc c3 1 := ⟨fun _ => rfl⟩
theorem ok3 (x : Int) : (c3 x).all cellOk = true := rfl
theorem fr3 (x : Int) : freeL (c3 x) = true := rfl
structure api_Pos where
  Line : Int
  Col : Int

def c29 (x : api_Pos) : List AV := c3 x.Line ++ (c3 x.Col)
instance : Enc c29 2 := ⟨fun x => by simp only [c29, List.length_append, Enc.len (e := c3)]⟩
theorem len29 (x : api_Pos) : (c29 x).length = 2 := Enc.len (e := c29) x
theorem ok29 (x : api_Pos) : (c29 x).all cellOk = true := by simp only [c29, List.all_append, ok3]; rfl
theorem fr29 (x : api_Pos) : freeL (c29 x) = true := by simp only [c29, freeL_append, fr3]; rfl
abbrev c9 : ByteArray → List AV := fun x => [.sc (.string x)]
instance : Enc c9 1 := ⟨fun _ => rfl⟩
theorem ok9 (x : ByteArray) : (c9 x).all cellOk = true := rfl
theorem fr9 (x : ByteArray) : freeL (c9 x) = true := rfl
structure api_Type where
  Kind : Int
  Name : ByteArray
  Parts : (List api_Type)
mutual
def c40 : api_Type → List AV
  | ⟨x0, x1, x2⟩ => c3 x0 ++ (c9 x1 ++ ([.ssl (l40 x2) x2.length false]))
def l40 : List api_Type → List AV
  | [] => []
  | x :: xs => c40 x ++ l40 xs
end
theorem l40_eq : ∀ xs : List api_Type, l40 xs = encs c40 xs
  | [] => by rw [l40, encs_nil]
  | x :: xs => by rw [l40, encs_cons, l40_eq xs]
abbrev c33 : (List api_Type) → List AV := fun x => [.ssl (encs c40 x) x.length false]
instance : Enc c33 1 := ⟨fun _ => rfl⟩
theorem ok33 (x : (List api_Type)) : (c33 x).all cellOk = true := rfl
theorem u40 (x : api_Type) : c40 x = c3 x.Kind ++ (c9 x.Name ++ (c33 x.Parts)) := by
  cases x; simp only [c40, l40_eq]
instance : Enc c40 3 := ⟨fun x => by rw [u40]; simp only [List.length_append, Enc.len (e := c3), Enc.len (e := c9), Enc.len (e := c33)]⟩
theorem len40 (x : api_Type) : (c40 x).length = 3 := Enc.len (e := c40) x
theorem ok40 (x : api_Type) : (c40 x).all cellOk = true := by rw [u40]; simp only [List.all_append, ok3, ok9, ok33]; rfl
mutual
theorem fr40 : ∀ x : api_Type, freeL (c40 x) = true
  | ⟨x0, x1, x2⟩ => by rw [c40]; simp only [freeL_append, fr3, fr9]; simp [freeL, free, fl40 x2]
theorem fl40 : ∀ xs : List api_Type, freeL (l40 xs) = true
  | [] => by rw [l40]; rfl
  | x :: xs => by rw [l40, freeL_append, fr40 x, fl40 xs]; rfl
end
theorem fr33 (x : (List api_Type)) : freeL (c33 x) = true := by simp [freeL, free, freeL_encs fr40]
structure api_Con where
  Name : ByteArray
  Fields : (List api_Type)

def c35 (x : api_Con) : List AV := c9 x.Name ++ (c33 x.Fields)
instance : Enc c35 2 := ⟨fun x => by simp only [c35, List.length_append, Enc.len (e := c9), Enc.len (e := c33)]⟩
theorem len35 (x : api_Con) : (c35 x).length = 2 := Enc.len (e := c35) x
theorem ok35 (x : api_Con) : (c35 x).all cellOk = true := by simp only [c35, List.all_append, ok9, ok33]; rfl
theorem fr35 (x : api_Con) : freeL (c35 x) = true := by simp only [c35, freeL_append, fr9, fr33]; rfl
abbrev c30 : (List api_Con) → List AV := fun x => [.ssl (encs c35 x) x.length false]
instance : Enc c30 1 := ⟨fun _ => rfl⟩
theorem ok30 (x : (List api_Con)) : (c30 x).all cellOk = true := rfl
theorem fr30 (x : (List api_Con)) : freeL (c30 x) = true := by simp [freeL, free, freeL_encs fr35]
structure api_Data where
  At : api_Pos
  Name : ByteArray
  Cons : (List api_Con)

def c32 (x : api_Data) : List AV := c29 x.At ++ (c9 x.Name ++ (c30 x.Cons))
instance : Enc c32 4 := ⟨fun x => by simp only [c32, List.length_append, Enc.len (e := c9), Enc.len (e := c29), Enc.len (e := c30)]⟩
theorem len32 (x : api_Data) : (c32 x).length = 4 := Enc.len (e := c32) x
theorem ok32 (x : api_Data) : (c32 x).all cellOk = true := by simp only [c32, List.all_append, ok9, ok29, ok30]; rfl
theorem fr32 (x : api_Data) : freeL (c32 x) = true := by simp only [c32, freeL_append, fr9, fr29, fr30]; rfl
abbrev c22 : (List api_Data) → List AV := fun x => [.ssl (encs c32 x) x.length false]
instance : Enc c22 1 := ⟨fun _ => rfl⟩
theorem ok22 (x : (List api_Data)) : (c22 x).all cellOk = true := rfl
theorem fr22 (x : (List api_Data)) : freeL (c22 x) = true := by simp [freeL, free, freeL_encs fr32]
structure api_Param where
  Name : ByteArray
  Type_ : api_Type

def c77 (x : api_Param) : List AV := c9 x.Name ++ (c40 x.Type_)
instance : Enc c77 4 := ⟨fun x => by simp only [c77, List.length_append, Enc.len (e := c9), Enc.len (e := c40)]⟩
theorem len77 (x : api_Param) : (c77 x).length = 4 := Enc.len (e := c77) x
theorem ok77 (x : api_Param) : (c77 x).all cellOk = true := by simp only [c77, List.all_append, ok9, ok40]; rfl
theorem fr77 (x : api_Param) : freeL (c77 x) = true := by simp only [c77, freeL_append, fr9, fr40]; rfl
abbrev c73 : (List api_Param) → List AV := fun x => [.ssl (encs c77 x) x.length false]
instance : Enc c73 1 := ⟨fun _ => rfl⟩
theorem ok73 (x : (List api_Param)) : (c73 x).all cellOk = true := rfl
theorem fr73 (x : (List api_Param)) : freeL (c73 x) = true := by simp [freeL, free, freeL_encs fr77]
abbrev c2 : Int → List AV := fun x => [.sc (.int .i64 x)]
instance : Enc c2 1 := ⟨fun _ => rfl⟩
theorem ok2 (x : Int) : (c2 x).all cellOk = true := rfl
theorem fr2 (x : Int) : freeL (c2 x) = true := rfl
abbrev c5 : Int → List AV := fun x => [.sc (.int .u8 x)]
instance : Enc c5 1 := ⟨fun _ => rfl⟩
theorem ok5 (x : Int) : (c5 x).all cellOk = true := rfl
theorem fr5 (x : Int) : freeL (c5 x) = true := rfl
abbrev c44 : (List Int) → List AV := fun x => [.ssl (encs c5 x) x.length false]
instance : Enc c44 1 := ⟨fun _ => rfl⟩
theorem ok44 (x : (List Int)) : (c44 x).all cellOk = true := rfl
theorem fr44 (x : (List Int)) : freeL (c44 x) = true := by simp [freeL, free, freeL_encs fr5]
structure api_Pat where
  Kind : Int
  At : api_Pos
  Name : ByteArray
  Num : Int
  Kids : (List api_Pat)
mutual
def c87 : api_Pat → List AV
  | ⟨x0, x1, x2, x3, x4⟩ => c3 x0 ++ (c29 x1 ++ (c9 x2 ++ (c2 x3 ++ ([.ssl (l87 x4) x4.length false]))))
def l87 : List api_Pat → List AV
  | [] => []
  | x :: xs => c87 x ++ l87 xs
end
theorem l87_eq : ∀ xs : List api_Pat, l87 xs = encs c87 xs
  | [] => by rw [l87, encs_nil]
  | x :: xs => by rw [l87, encs_cons, l87_eq xs]
abbrev c85 : (List api_Pat) → List AV := fun x => [.ssl (encs c87 x) x.length false]
instance : Enc c85 1 := ⟨fun _ => rfl⟩
theorem ok85 (x : (List api_Pat)) : (c85 x).all cellOk = true := rfl
theorem u87 (x : api_Pat) : c87 x = c3 x.Kind ++ (c29 x.At ++ (c9 x.Name ++ (c2 x.Num ++ (c85 x.Kids)))) := by
  cases x; simp only [c87, l87_eq]
instance : Enc c87 6 := ⟨fun x => by rw [u87]; simp only [List.length_append, Enc.len (e := c2), Enc.len (e := c3), Enc.len (e := c9), Enc.len (e := c29), Enc.len (e := c85)]⟩
theorem len87 (x : api_Pat) : (c87 x).length = 6 := Enc.len (e := c87) x
theorem ok87 (x : api_Pat) : (c87 x).all cellOk = true := by rw [u87]; simp only [List.all_append, ok2, ok3, ok9, ok29, ok85]; rfl
mutual
theorem fr87 : ∀ x : api_Pat, freeL (c87 x) = true
  | ⟨x0, x1, x2, x3, x4⟩ => by rw [c87]; simp only [freeL_append, fr2, fr3, fr9, fr29]; simp [freeL, free, fl87 x4]
theorem fl87 : ∀ xs : List api_Pat, freeL (l87 xs) = true
  | [] => by rw [l87]; rfl
  | x :: xs => by rw [l87, freeL_append, fr87 x, fl87 xs]; rfl
end
theorem fr85 (x : (List api_Pat)) : freeL (c85 x) = true := by simp [freeL, free, freeL_encs fr87]
mutual
structure api_Expr where
  Kind : Int
  At : api_Pos
  Num : Int
  Bytes : (List Int)
  Name : ByteArray
  Kids : (List api_Expr)
  Arms : (List api_Arm)
structure api_Arm where
  Pat : api_Pat
  Body : api_Expr
end
mutual
def c48 : api_Expr → List AV
  | ⟨x0, x1, x2, x3, x4, x5, x6⟩ => c3 x0 ++ (c29 x1 ++ (c2 x2 ++ (c44 x3 ++ (c9 x4 ++ ([.ssl (l48 x5) x5.length false] ++ ([.ssl (l89 x6) x6.length false]))))))
def c89 : api_Arm → List AV
  | ⟨x0, x1⟩ => c87 x0 ++ (c48 x1)
def l48 : List api_Expr → List AV
  | [] => []
  | x :: xs => c48 x ++ l48 xs
def l89 : List api_Arm → List AV
  | [] => []
  | x :: xs => c89 x ++ l89 xs
end
theorem l48_eq : ∀ xs : List api_Expr, l48 xs = encs c48 xs
  | [] => by rw [l48, encs_nil]
  | x :: xs => by rw [l48, encs_cons, l48_eq xs]
theorem l89_eq : ∀ xs : List api_Arm, l89 xs = encs c89 xs
  | [] => by rw [l89, encs_nil]
  | x :: xs => by rw [l89, encs_cons, l89_eq xs]
abbrev c45 : (List api_Expr) → List AV := fun x => [.ssl (encs c48 x) x.length false]
instance : Enc c45 1 := ⟨fun _ => rfl⟩
theorem ok45 (x : (List api_Expr)) : (c45 x).all cellOk = true := rfl
abbrev c46 : (List api_Arm) → List AV := fun x => [.ssl (encs c89 x) x.length false]
instance : Enc c46 1 := ⟨fun _ => rfl⟩
theorem ok46 (x : (List api_Arm)) : (c46 x).all cellOk = true := rfl
theorem u48 (x : api_Expr) : c48 x = c3 x.Kind ++ (c29 x.At ++ (c2 x.Num ++ (c44 x.Bytes ++ (c9 x.Name ++ (c45 x.Kids ++ (c46 x.Arms)))))) := by
  cases x; simp only [c48, l48_eq, l89_eq]
theorem u89 (x : api_Arm) : c89 x = c87 x.Pat ++ (c48 x.Body) := by
  cases x; simp only [c89, l48_eq, l89_eq]
instance : Enc c48 8 := ⟨fun x => by rw [u48]; simp only [List.length_append, Enc.len (e := c2), Enc.len (e := c3), Enc.len (e := c9), Enc.len (e := c29), Enc.len (e := c44), Enc.len (e := c45), Enc.len (e := c46)]⟩
theorem len48 (x : api_Expr) : (c48 x).length = 8 := Enc.len (e := c48) x
theorem ok48 (x : api_Expr) : (c48 x).all cellOk = true := by rw [u48]; simp only [List.all_append, ok2, ok3, ok9, ok29, ok44, ok45, ok46]; rfl
instance : Enc c89 14 := ⟨fun x => by rw [u89]; simp only [List.length_append, Enc.len (e := c48), Enc.len (e := c87)]⟩
theorem len89 (x : api_Arm) : (c89 x).length = 14 := Enc.len (e := c89) x
theorem ok89 (x : api_Arm) : (c89 x).all cellOk = true := by rw [u89]; simp only [List.all_append, ok48, ok87]; rfl
mutual
theorem fr48 : ∀ x : api_Expr, freeL (c48 x) = true
  | ⟨x0, x1, x2, x3, x4, x5, x6⟩ => by rw [c48]; simp only [freeL_append, fr2, fr3, fr9, fr29, fr44]; simp [freeL, free, fl48 x5, fl89 x6]
theorem fr89 : ∀ x : api_Arm, freeL (c89 x) = true
  | ⟨x0, x1⟩ => by rw [c89]; simp only [freeL_append, fr87]; simp [freeL, free, fr48 x1]
theorem fl48 : ∀ xs : List api_Expr, freeL (l48 xs) = true
  | [] => by rw [l48]; rfl
  | x :: xs => by rw [l48, freeL_append, fr48 x, fl48 xs]; rfl
theorem fl89 : ∀ xs : List api_Arm, freeL (l89 xs) = true
  | [] => by rw [l89]; rfl
  | x :: xs => by rw [l89, freeL_append, fr89 x, fl89 xs]; rfl
end
theorem fr45 (x : (List api_Expr)) : freeL (c45 x) = true := by simp [freeL, free, freeL_encs fr48]
theorem fr46 (x : (List api_Arm)) : freeL (c46 x) = true := by simp [freeL, free, freeL_encs fr89]
structure api_Fun where
  At : api_Pos
  Name : ByteArray
  Params : (List api_Param)
  Result : api_Type
  Body : api_Expr

def c75 (x : api_Fun) : List AV := c29 x.At ++ (c9 x.Name ++ (c73 x.Params ++ (c40 x.Result ++ (c48 x.Body))))
instance : Enc c75 15 := ⟨fun x => by simp only [c75, List.length_append, Enc.len (e := c9), Enc.len (e := c29), Enc.len (e := c40), Enc.len (e := c48), Enc.len (e := c73)]⟩
theorem len75 (x : api_Fun) : (c75 x).length = 15 := Enc.len (e := c75) x
theorem ok75 (x : api_Fun) : (c75 x).all cellOk = true := by simp only [c75, List.all_append, ok9, ok29, ok40, ok48, ok73]; rfl
theorem fr75 (x : api_Fun) : freeL (c75 x) = true := by simp only [c75, freeL_append, fr9, fr29, fr40, fr48, fr73]; rfl
abbrev c43 : (List api_Fun) → List AV := fun x => [.ssl (encs c75 x) x.length false]
instance : Enc c43 1 := ⟨fun _ => rfl⟩
theorem ok43 (x : (List api_Fun)) : (c43 x).all cellOk = true := rfl
theorem fr43 (x : (List api_Fun)) : freeL (c43 x) = true := by simp [freeL, free, freeL_encs fr75]
structure api_Hand where
  At : api_Pos
  Name : ByteArray
  Param : api_Param
  Cap : Int
  Body : api_Expr

def c79 (x : api_Hand) : List AV := c29 x.At ++ (c9 x.Name ++ (c77 x.Param ++ (c3 x.Cap ++ (c48 x.Body))))
instance : Enc c79 16 := ⟨fun x => by simp only [c79, List.length_append, Enc.len (e := c3), Enc.len (e := c9), Enc.len (e := c29), Enc.len (e := c48), Enc.len (e := c77)]⟩
theorem len79 (x : api_Hand) : (c79 x).length = 16 := Enc.len (e := c79) x
theorem ok79 (x : api_Hand) : (c79 x).all cellOk = true := by simp only [c79, List.all_append, ok3, ok9, ok29, ok48, ok77]; rfl
theorem fr79 (x : api_Hand) : freeL (c79 x) = true := by simp only [c79, freeL_append, fr3, fr9, fr29, fr48, fr77]; rfl
abbrev c49 : (List api_Hand) → List AV := fun x => [.ssl (encs c79 x) x.length false]
instance : Enc c49 1 := ⟨fun _ => rfl⟩
theorem ok49 (x : (List api_Hand)) : (c49 x).all cellOk = true := rfl
theorem fr49 (x : (List api_Hand)) : freeL (c49 x) = true := by simp [freeL, free, freeL_encs fr79]
structure api_Prog where
  Datas : (List api_Data)
  Funs : (List api_Fun)
  Queue : Int
  Timers : Int
  State : api_Type
  Cap : Int
  Init : api_Expr
  Hands : (List api_Hand)

def c51 (x : api_Prog) : List AV := c22 x.Datas ++ (c43 x.Funs ++ (c3 x.Queue ++ (c3 x.Timers ++ (c40 x.State ++ (c3 x.Cap ++ (c48 x.Init ++ (c49 x.Hands)))))))
instance : Enc c51 17 := ⟨fun x => by simp only [c51, List.length_append, Enc.len (e := c3), Enc.len (e := c22), Enc.len (e := c40), Enc.len (e := c43), Enc.len (e := c48), Enc.len (e := c49)]⟩
theorem len51 (x : api_Prog) : (c51 x).length = 17 := Enc.len (e := c51) x
theorem ok51 (x : api_Prog) : (c51 x).all cellOk = true := by simp only [c51, List.all_append, ok3, ok22, ok40, ok43, ok48, ok49]; rfl
theorem fr51 (x : api_Prog) : freeL (c51 x) = true := by simp only [c51, freeL_append, fr3, fr22, fr40, fr43, fr48, fr49]; rfl
abbrev c4 : Bool → List AV := fun x => [.sc (.bool x)]
instance : Enc c4 1 := ⟨fun _ => rfl⟩
theorem ok4 (x : Bool) : (c4 x).all cellOk = true := rfl
theorem fr4 (x : Bool) : freeL (c4 x) = true := rfl
theorem ld_51_0_51 (x : api_Prog) : partOf T.T 51 (c51 x) 0 = some (.agg (c51 x)) := part_all T.t51 rfl (by rw [len51])
theorem ld_51_8_48 (x : api_Prog) : partOf T.T 48 (c51 x) 8 = some (.agg (c48 x.Init)) := by
  rw [c51]
  rw [show 8 = 1 + 7 from rfl, part_skip T.t48 (Enc.len (e := c22) _)]
  rw [show 7 = 1 + 6 from rfl, part_skip T.t48 (Enc.len (e := c43) _)]
  rw [show 6 = 1 + 5 from rfl, part_skip T.t48 (Enc.len (e := c3) _)]
  rw [show 5 = 1 + 4 from rfl, part_skip T.t48 (Enc.len (e := c3) _)]
  rw [show 4 = 3 + 1 from rfl, part_skip T.t48 (Enc.len (e := c40) _)]
  rw [show 1 = 1 + 0 from rfl, part_skip T.t48 (Enc.len (e := c3) _)]
  rw [part_head T.t48 (by decide) (by rw [Enc.len (e := c48)]; decide)]
  exact part_all T.t48 rfl (by rw [len48])
theorem ld_51_4_40 (x : api_Prog) : partOf T.T 40 (c51 x) 4 = some (.agg (c40 x.State)) := by
  rw [c51]
  rw [show 4 = 1 + 3 from rfl, part_skip T.t40 (Enc.len (e := c22) _)]
  rw [show 3 = 1 + 2 from rfl, part_skip T.t40 (Enc.len (e := c43) _)]
  rw [show 2 = 1 + 1 from rfl, part_skip T.t40 (Enc.len (e := c3) _)]
  rw [show 1 = 1 + 0 from rfl, part_skip T.t40 (Enc.len (e := c3) _)]
  rw [part_head T.t40 (by decide) (by rw [Enc.len (e := c40)]; decide)]
  exact part_all T.t40 rfl (by rw [len40])
theorem ld_40_1_9 (x : api_Type) : partOf T.T 9 (c40 x) 1 = some (.sc (.string x.Name)) := by
  rw [u40]
  rw [show 1 = 1 + 0 from rfl, part_skip T.t9 (Enc.len (e := c3) _)]
  rw [part_head T.t9 (by decide) (by rw [Enc.len (e := c9)]; decide)]
  rfl
theorem ld_40_2_33 (x : api_Type) : partOf T.T 33 (c40 x) 2 = some (.ssl (encs c40 x.Parts) x.Parts.length false) := by
  rw [u40]
  rw [show 2 = 1 + 1 from rfl, part_skip T.t33 (Enc.len (e := c3) _)]
  rw [show 1 = 1 + 0 from rfl, part_skip T.t33 (Enc.len (e := c9) _)]
  rfl
theorem pd40 (l : List AV) (o : Nat) : partOf T.T 40 (l.drop o) 0 = partOf T.T 40 l o := partOf_drop T.t40 (by decide) l o
theorem ld_40_0_40 (x : api_Type) : partOf T.T 40 (c40 x) 0 = some (.agg (c40 x)) := part_all T.t40 rfl (by rw [len40])
theorem ld_48_4_44 (x : api_Expr) : partOf T.T 44 (c48 x) 4 = some (.ssl (encs c5 x.Bytes) x.Bytes.length false) := by
  rw [u48]
  rw [show 4 = 1 + 3 from rfl, part_skip T.t44 (Enc.len (e := c3) _)]
  rw [show 3 = 2 + 1 from rfl, part_skip T.t44 (Enc.len (e := c29) _)]
  rw [show 1 = 1 + 0 from rfl, part_skip T.t44 (Enc.len (e := c2) _)]
  rw [part_head T.t44 (by decide) (by rw [Enc.len (e := c44)]; decide)]
  rfl
theorem ld_48_5_9 (x : api_Expr) : partOf T.T 9 (c48 x) 5 = some (.sc (.string x.Name)) := by
  rw [u48]
  rw [show 5 = 1 + 4 from rfl, part_skip T.t9 (Enc.len (e := c3) _)]
  rw [show 4 = 2 + 2 from rfl, part_skip T.t9 (Enc.len (e := c29) _)]
  rw [show 2 = 1 + 1 from rfl, part_skip T.t9 (Enc.len (e := c2) _)]
  rw [show 1 = 1 + 0 from rfl, part_skip T.t9 (Enc.len (e := c44) _)]
  rw [part_head T.t9 (by decide) (by rw [Enc.len (e := c9)]; decide)]
  rfl
theorem ld_48_6_45 (x : api_Expr) : partOf T.T 45 (c48 x) 6 = some (.ssl (encs c48 x.Kids) x.Kids.length false) := by
  rw [u48]
  rw [show 6 = 1 + 5 from rfl, part_skip T.t45 (Enc.len (e := c3) _)]
  rw [show 5 = 2 + 3 from rfl, part_skip T.t45 (Enc.len (e := c29) _)]
  rw [show 3 = 1 + 2 from rfl, part_skip T.t45 (Enc.len (e := c2) _)]
  rw [show 2 = 1 + 1 from rfl, part_skip T.t45 (Enc.len (e := c44) _)]
  rw [show 1 = 1 + 0 from rfl, part_skip T.t45 (Enc.len (e := c9) _)]
  rw [part_head T.t45 (by decide) (by rw [Enc.len (e := c45)]; decide)]
  rfl
theorem pd48 (l : List AV) (o : Nat) : partOf T.T 48 (l.drop o) 0 = partOf T.T 48 l o := partOf_drop T.t48 (by decide) l o
theorem ld_48_0_48 (x : api_Expr) : partOf T.T 48 (c48 x) 0 = some (.agg (c48 x)) := part_all T.t48 rfl (by rw [len48])
theorem ld_48_7_46 (x : api_Expr) : partOf T.T 46 (c48 x) 7 = some (.ssl (encs c89 x.Arms) x.Arms.length false) := by
  rw [u48]
  rw [show 7 = 1 + 6 from rfl, part_skip T.t46 (Enc.len (e := c3) _)]
  rw [show 6 = 2 + 4 from rfl, part_skip T.t46 (Enc.len (e := c29) _)]
  rw [show 4 = 1 + 3 from rfl, part_skip T.t46 (Enc.len (e := c2) _)]
  rw [show 3 = 1 + 2 from rfl, part_skip T.t46 (Enc.len (e := c44) _)]
  rw [show 2 = 1 + 1 from rfl, part_skip T.t46 (Enc.len (e := c9) _)]
  rw [show 1 = 1 + 0 from rfl, part_skip T.t46 (Enc.len (e := c45) _)]
  rfl
theorem ld_89_6_48 (x : api_Arm) : partOf T.T 48 (c89 x) 6 = some (.agg (c48 x.Body)) := by
  rw [u89]
  rw [show 6 = 6 + 0 from rfl, part_skip T.t48 (Enc.len (e := c87) _)]
  exact part_all T.t48 rfl (by rw [len48])
theorem pd87 (l : List AV) (o : Nat) : partOf T.T 87 (l.drop o) 0 = partOf T.T 87 l o := partOf_drop T.t87 (by decide) l o
theorem ld_89_0_87 (x : api_Arm) : partOf T.T 87 (c89 x) 0 = some (.agg (c87 x.Pat)) := by
  rw [u89]
  rw [part_head T.t87 (by decide) (by rw [Enc.len (e := c87)]; decide)]
  exact part_all T.t87 rfl (by rw [len87])
theorem ld_87_3_9 (x : api_Pat) : partOf T.T 9 (c87 x) 3 = some (.sc (.string x.Name)) := by
  rw [u87]
  rw [show 3 = 1 + 2 from rfl, part_skip T.t9 (Enc.len (e := c3) _)]
  rw [show 2 = 2 + 0 from rfl, part_skip T.t9 (Enc.len (e := c29) _)]
  rw [part_head T.t9 (by decide) (by rw [Enc.len (e := c9)]; decide)]
  rfl
theorem ld_87_5_85 (x : api_Pat) : partOf T.T 85 (c87 x) 5 = some (.ssl (encs c87 x.Kids) x.Kids.length false) := by
  rw [u87]
  rw [show 5 = 1 + 4 from rfl, part_skip T.t85 (Enc.len (e := c3) _)]
  rw [show 4 = 2 + 2 from rfl, part_skip T.t85 (Enc.len (e := c29) _)]
  rw [show 2 = 1 + 1 from rfl, part_skip T.t85 (Enc.len (e := c9) _)]
  rw [show 1 = 1 + 0 from rfl, part_skip T.t85 (Enc.len (e := c2) _)]
  rfl
theorem ld_87_0_87 (x : api_Pat) : partOf T.T 87 (c87 x) 0 = some (.agg (c87 x)) := part_all T.t87 rfl (by rw [len87])
theorem ld_51_0_22 (x : api_Prog) : partOf T.T 22 (c51 x) 0 = some (.ssl (encs c32 x.Datas) x.Datas.length false) := by
  rw [c51]
  rw [part_head T.t22 (by decide) (by rw [Enc.len (e := c22)]; decide)]
  rfl
theorem pd9 (l : List AV) (o : Nat) : partOf T.T 9 (l.drop o) 0 = partOf T.T 9 l o := partOf_drop T.t9 (by decide) l o
theorem ld_32_2_9 (x : api_Data) : partOf T.T 9 (c32 x) 2 = some (.sc (.string x.Name)) := by
  rw [c32]
  rw [show 2 = 2 + 0 from rfl, part_skip T.t9 (Enc.len (e := c29) _)]
  rw [part_head T.t9 (by decide) (by rw [Enc.len (e := c9)]; decide)]
  rfl
theorem pd30 (l : List AV) (o : Nat) : partOf T.T 30 (l.drop o) 0 = partOf T.T 30 l o := partOf_drop T.t30 (by decide) l o
theorem ld_32_3_30 (x : api_Data) : partOf T.T 30 (c32 x) 3 = some (.ssl (encs c35 x.Cons) x.Cons.length false) := by
  rw [c32]
  rw [show 3 = 2 + 1 from rfl, part_skip T.t30 (Enc.len (e := c29) _)]
  rw [show 1 = 1 + 0 from rfl, part_skip T.t30 (Enc.len (e := c9) _)]
  rfl
theorem ld_35_0_9 (x : api_Con) : partOf T.T 9 (c35 x) 0 = some (.sc (.string x.Name)) := by
  rw [c35]
  rw [part_head T.t9 (by decide) (by rw [Enc.len (e := c9)]; decide)]
  rfl
theorem pd33 (l : List AV) (o : Nat) : partOf T.T 33 (l.drop o) 0 = partOf T.T 33 l o := partOf_drop T.t33 (by decide) l o
theorem ld_35_1_33 (x : api_Con) : partOf T.T 33 (c35 x) 1 = some (.ssl (encs c40 x.Fields) x.Fields.length false) := by
  rw [c35]
  rw [show 1 = 1 + 0 from rfl, part_skip T.t33 (Enc.len (e := c9) _)]
  rfl
theorem st_40_1_9 (x : api_Type) (v : ByteArray) : splice (c40 x) 1 ([.sc (.string v)]) = c40 ({ x with Name := v }) := by
  rw [u40, u40]
  all_goals rw [show 1 = 1 + 0 from rfl, splice_skip (Enc.len (e := c3) _)]
  all_goals congr 1
  all_goals rw [splice_head (by simp [Enc.len (e := c9), len_one])]
  all_goals congr 1
  all_goals rfl
theorem st_40_2_33 (x : api_Type) (v : (List api_Type)) : splice (c40 x) 2 ([.ssl (encs c40 v) v.length false]) = c40 ({ x with Parts := v }) := by
  rw [u40, u40]
  all_goals rw [show 2 = 1 + 1 from rfl, splice_skip (Enc.len (e := c3) _)]
  all_goals congr 1
  all_goals rw [show 1 = 1 + 0 from rfl, splice_skip (Enc.len (e := c9) _)]
  all_goals congr 1
  all_goals rfl
theorem ld_51_1_43 (x : api_Prog) : partOf T.T 43 (c51 x) 1 = some (.ssl (encs c75 x.Funs) x.Funs.length false) := by
  rw [c51]
  rw [show 1 = 1 + 0 from rfl, part_skip T.t43 (Enc.len (e := c22) _)]
  rw [part_head T.t43 (by decide) (by rw [Enc.len (e := c43)]; decide)]
  rfl
theorem pd75 (l : List AV) (o : Nat) : partOf T.T 75 (l.drop o) 0 = partOf T.T 75 l o := partOf_drop T.t75 (by decide) l o
theorem ld_75_0_75 (x : api_Fun) : partOf T.T 75 (c75 x) 0 = some (.agg (c75 x)) := part_all T.t75 rfl (by rw [len75])
theorem st_75_0_75 (x : api_Fun) (v : api_Fun) : splice (c75 x) 0 (c75 v) = c75 v := by
  exact splice_all (by simp only [Enc.len (e := c75)])
theorem ld_75_7_48 (x : api_Fun) : partOf T.T 48 (c75 x) 7 = some (.agg (c48 x.Body)) := by
  rw [c75]
  rw [show 7 = 2 + 5 from rfl, part_skip T.t48 (Enc.len (e := c29) _)]
  rw [show 5 = 1 + 4 from rfl, part_skip T.t48 (Enc.len (e := c9) _)]
  rw [show 4 = 1 + 3 from rfl, part_skip T.t48 (Enc.len (e := c73) _)]
  rw [show 3 = 3 + 0 from rfl, part_skip T.t48 (Enc.len (e := c40) _)]
  exact part_all T.t48 rfl (by rw [len48])
theorem ld_75_4_40 (x : api_Fun) : partOf T.T 40 (c75 x) 4 = some (.agg (c40 x.Result)) := by
  rw [c75]
  rw [show 4 = 2 + 2 from rfl, part_skip T.t40 (Enc.len (e := c29) _)]
  rw [show 2 = 1 + 1 from rfl, part_skip T.t40 (Enc.len (e := c9) _)]
  rw [show 1 = 1 + 0 from rfl, part_skip T.t40 (Enc.len (e := c73) _)]
  rw [part_head T.t40 (by decide) (by rw [Enc.len (e := c40)]; decide)]
  exact part_all T.t40 rfl (by rw [len40])
theorem ld_75_2_9 (x : api_Fun) : partOf T.T 9 (c75 x) 2 = some (.sc (.string x.Name)) := by
  rw [c75]
  rw [show 2 = 2 + 0 from rfl, part_skip T.t9 (Enc.len (e := c29) _)]
  rw [part_head T.t9 (by decide) (by rw [Enc.len (e := c9)]; decide)]
  rfl
theorem ld_75_3_73 (x : api_Fun) : partOf T.T 73 (c75 x) 3 = some (.ssl (encs c77 x.Params) x.Params.length false) := by
  rw [c75]
  rw [show 3 = 2 + 1 from rfl, part_skip T.t73 (Enc.len (e := c29) _)]
  rw [show 1 = 1 + 0 from rfl, part_skip T.t73 (Enc.len (e := c9) _)]
  rw [part_head T.t73 (by decide) (by rw [Enc.len (e := c73)]; decide)]
  rfl
theorem ld_77_1_40 (x : api_Param) : partOf T.T 40 (c77 x) 1 = some (.agg (c40 x.Type_)) := by
  rw [c77]
  rw [show 1 = 1 + 0 from rfl, part_skip T.t40 (Enc.len (e := c9) _)]
  exact part_all T.t40 rfl (by rw [len40])
theorem ld_77_0_9 (x : api_Param) : partOf T.T 9 (c77 x) 0 = some (.sc (.string x.Name)) := by
  rw [c77]
  rw [part_head T.t9 (by decide) (by rw [Enc.len (e := c9)]; decide)]
  rfl
theorem ld_51_16_49 (x : api_Prog) : partOf T.T 49 (c51 x) 16 = some (.ssl (encs c79 x.Hands) x.Hands.length false) := by
  rw [c51]
  rw [show 16 = 1 + 15 from rfl, part_skip T.t49 (Enc.len (e := c22) _)]
  rw [show 15 = 1 + 14 from rfl, part_skip T.t49 (Enc.len (e := c43) _)]
  rw [show 14 = 1 + 13 from rfl, part_skip T.t49 (Enc.len (e := c3) _)]
  rw [show 13 = 1 + 12 from rfl, part_skip T.t49 (Enc.len (e := c3) _)]
  rw [show 12 = 3 + 9 from rfl, part_skip T.t49 (Enc.len (e := c40) _)]
  rw [show 9 = 1 + 8 from rfl, part_skip T.t49 (Enc.len (e := c3) _)]
  rw [show 8 = 8 + 0 from rfl, part_skip T.t49 (Enc.len (e := c48) _)]
  rfl
theorem pd79 (l : List AV) (o : Nat) : partOf T.T 79 (l.drop o) 0 = partOf T.T 79 l o := partOf_drop T.t79 (by decide) l o
theorem ld_79_0_79 (x : api_Hand) : partOf T.T 79 (c79 x) 0 = some (.agg (c79 x)) := part_all T.t79 rfl (by rw [len79])
theorem st_79_0_79 (x : api_Hand) (v : api_Hand) : splice (c79 x) 0 (c79 v) = c79 v := by
  exact splice_all (by simp only [Enc.len (e := c79)])
theorem ld_79_8_48 (x : api_Hand) : partOf T.T 48 (c79 x) 8 = some (.agg (c48 x.Body)) := by
  rw [c79]
  rw [show 8 = 2 + 6 from rfl, part_skip T.t48 (Enc.len (e := c29) _)]
  rw [show 6 = 1 + 5 from rfl, part_skip T.t48 (Enc.len (e := c9) _)]
  rw [show 5 = 4 + 1 from rfl, part_skip T.t48 (Enc.len (e := c77) _)]
  rw [show 1 = 1 + 0 from rfl, part_skip T.t48 (Enc.len (e := c3) _)]
  exact part_all T.t48 rfl (by rw [len48])
theorem ld_79_4_40 (x : api_Hand) : partOf T.T 40 (c79 x) 4 = some (.agg (c40 x.Param.Type_)) := by
  rw [c79]
  rw [show 4 = 2 + 2 from rfl, part_skip T.t40 (Enc.len (e := c29) _)]
  rw [show 2 = 1 + 1 from rfl, part_skip T.t40 (Enc.len (e := c9) _)]
  rw [part_head T.t40 (by decide) (by rw [Enc.len (e := c77)]; decide)]
  rw [c77]
  rw [show 1 = 1 + 0 from rfl, part_skip T.t40 (Enc.len (e := c9) _)]
  exact part_all T.t40 rfl (by rw [len40])
theorem ld_79_2_9 (x : api_Hand) : partOf T.T 9 (c79 x) 2 = some (.sc (.string x.Name)) := by
  rw [c79]
  rw [show 2 = 2 + 0 from rfl, part_skip T.t9 (Enc.len (e := c29) _)]
  rw [part_head T.t9 (by decide) (by rw [Enc.len (e := c9)]; decide)]
  rfl
theorem ld_79_3_9 (x : api_Hand) : partOf T.T 9 (c79 x) 3 = some (.sc (.string x.Param.Name)) := by
  rw [c79]
  rw [show 3 = 2 + 1 from rfl, part_skip T.t9 (Enc.len (e := c29) _)]
  rw [show 1 = 1 + 0 from rfl, part_skip T.t9 (Enc.len (e := c9) _)]
  rw [part_head T.t9 (by decide) (by rw [Enc.len (e := c77)]; decide)]
  rw [c77]
  rw [part_head T.t9 (by decide) (by rw [Enc.len (e := c9)]; decide)]
  rfl
theorem pd32 (l : List AV) (o : Nat) : partOf T.T 32 (l.drop o) 0 = partOf T.T 32 l o := partOf_drop T.t32 (by decide) l o
theorem ld_32_0_32 (x : api_Data) : partOf T.T 32 (c32 x) 0 = some (.agg (c32 x)) := part_all T.t32 rfl (by rw [len32])
theorem st_32_0_32 (x : api_Data) (v : api_Data) : splice (c32 x) 0 (c32 v) = c32 v := by
  exact splice_all (by simp only [Enc.len (e := c32)])
theorem pd35 (l : List AV) (o : Nat) : partOf T.T 35 (l.drop o) 0 = partOf T.T 35 l o := partOf_drop T.t35 (by decide) l o
theorem ld_35_0_35 (x : api_Con) : partOf T.T 35 (c35 x) 0 = some (.agg (c35 x)) := part_all T.t35 rfl (by rw [len35])
theorem ld_9_0_9 (x : ByteArray) : partOf T.T 9 (c9 x) 0 = some (.sc (.string x)) := rfl
theorem st_35_0_9 (x : api_Con) (v : ByteArray) : splice (c35 x) 0 ([.sc (.string v)]) = c35 ({ x with Name := v }) := by
  rw [c35, c35]
  all_goals rw [splice_head (by simp [Enc.len (e := c9), len_one])]
  all_goals congr 1
  all_goals rfl
theorem st_32_2_9 (x : api_Data) (v : ByteArray) : splice (c32 x) 2 ([.sc (.string v)]) = c32 ({ x with Name := v }) := by
  rw [c32, c32]
  all_goals rw [show 2 = 2 + 0 from rfl, splice_skip (Enc.len (e := c29) _)]
  all_goals congr 1
  all_goals rw [splice_head (by simp [Enc.len (e := c9), len_one])]
  all_goals congr 1
  all_goals rfl
theorem st_32_3_30 (x : api_Data) (v : (List api_Con)) : splice (c32 x) 3 ([.ssl (encs c35 v) v.length false]) = c32 ({ x with Cons := v }) := by
  rw [c32, c32]
  all_goals rw [show 3 = 2 + 1 from rfl, splice_skip (Enc.len (e := c29) _)]
  all_goals congr 1
  all_goals rw [show 1 = 1 + 0 from rfl, splice_skip (Enc.len (e := c9) _)]
  all_goals congr 1
  all_goals rfl
theorem st_40_0_3 (x : api_Type) (v : Int) : splice (c40 x) 0 ([.sc (.int .i64 v)]) = c40 ({ x with Kind := v }) := by
  rw [u40, u40]
  all_goals rw [splice_head (by simp [Enc.len (e := c3), len_one])]
  all_goals congr 1
  all_goals rfl
theorem st_40_0_40 (x : api_Type) (v : api_Type) : splice (c40 x) 0 (c40 v) = c40 v := by
  exact splice_all (by simp only [Enc.len (e := c40)])
theorem st_35_1_33 (x : api_Con) (v : (List api_Type)) : splice (c35 x) 1 ([.ssl (encs c40 v) v.length false]) = c35 ({ x with Fields := v }) := by
  rw [c35, c35]
  all_goals rw [show 1 = 1 + 0 from rfl, splice_skip (Enc.len (e := c9) _)]
  all_goals congr 1
  all_goals rfl
theorem st_35_0_35 (x : api_Con) (v : api_Con) : splice (c35 x) 0 (c35 v) = c35 v := by
  exact splice_all (by simp only [Enc.len (e := c35)])
theorem ld_40_0_3 (x : api_Type) : partOf T.T 3 (c40 x) 0 = some (.sc (.int .i64 x.Kind)) := by
  rw [u40]
  rw [part_head T.t3 (by decide) (by rw [Enc.len (e := c3)]; decide)]
  rfl
theorem eq4 (d : Nat) (x y : Bool) : eqT T.T (d + 1) 4 (.sc (.bool x)) (.sc (.bool y)) = some (x == y) := by simp [eqT, T.t4]
theorem eqM4 (x y : Bool) : eqT T.T Op.maxDepth 4 (.sc (.bool x)) (.sc (.bool y)) = some (x == y) := eq4 9999 x y
theorem ld_22_0_22 (x : (List api_Data)) : partOf T.T 22 (c22 x) 0 = some (.ssl (encs c32 x) x.length false) := rfl
theorem pd22 (l : List AV) (o : Nat) : partOf T.T 22 (l.drop o) 0 = partOf T.T 22 l o := partOf_drop T.t22 (by decide) l o
end Go.Proofs.Ytappiofmkoelnaa.M
