/-
  Types, as Lean has them, and their cells.
-/
import Derived.Test.YtfflojbgikfbmaaTab
import Derived.Test.YtfflojbgikfbmaaAhX
import Derived.Test.YtfflojbgikfbmaaAhS
namespace Go.Proofs.Ytfflojbgikfbmaa.M
open Go.Proofs.YtfflojbgikfbmaaW.Ah Go.Proofs.Ytfflojbgikfbmaa
set_option linter.unusedVariables false
set_option linter.unusedSimpArgs false
set_option maxRecDepth 8000
abbrev c3 : Int → List AV := fun x => [.sc (.int .i64 x)]
instance : Enc c3 1 := ⟨fun _ => rfl⟩
theorem ok3 (x : Int) : (c3 x).all cellOk = true := rfl
theorem fr3 (x : Int) : freeL (c3 x) = true := rfl
structure api_Head where
  Kind : Int
  Tag : Int
  Count : Int

def c34 (x : api_Head) : List AV := c3 x.Kind ++ (c3 x.Tag ++ (c3 x.Count))
instance : Enc c34 3 := ⟨fun x => by simp only [c34, List.length_append, Enc.len (e := c3)]⟩
theorem len34 (x : api_Head) : (c34 x).length = 3 := Enc.len (e := c34) x
theorem ok34 (x : api_Head) : (c34 x).all cellOk = true := by simp only [c34, List.all_append, ok3] <;> rfl
theorem fr34 (x : api_Head) : freeL (c34 x) = true := by simp only [c34, freeL_append, fr3] <;> rfl
abbrev c5 : Int → List AV := fun x => [.sc (.int .u8 x)]
instance : Enc c5 1 := ⟨fun _ => rfl⟩
theorem ok5 (x : Int) : (c5 x).all cellOk = true := rfl
theorem fr5 (x : Int) : freeL (c5 x) = true := rfl
abbrev c35 : (List Int) → List AV := fun x => [.ssl (encs c5 x) x.length false]
instance : Enc c35 1 := ⟨fun _ => rfl⟩
theorem ok35 (x : (List Int)) : (c35 x).all cellOk = true := rfl
theorem fr35 (x : (List Int)) : freeL (c35 x) = true := by simp [freeL, free, freeL_encs fr5]
abbrev c4 : Bool → List AV := fun x => [.sc (.bool x)]
instance : Enc c4 1 := ⟨fun _ => rfl⟩
theorem ok4 (x : Bool) : (c4 x).all cellOk = true := rfl
theorem fr4 (x : Bool) : freeL (c4 x) = true := rfl
abbrev c2 : Int → List AV := fun x => [.sc (.int .i64 x)]
instance : Enc c2 1 := ⟨fun _ => rfl⟩
theorem ok2 (x : Int) : (c2 x).all cellOk = true := rfl
theorem fr2 (x : Int) : freeL (c2 x) = true := rfl
structure api_Edge where
  Is : Bool
  Node : Int
  Num : Int

def c31 (x : api_Edge) : List AV := c4 x.Is ++ (c3 x.Node ++ (c2 x.Num))
instance : Enc c31 3 := ⟨fun x => by simp only [c31, List.length_append, Enc.len (e := c2), Enc.len (e := c3), Enc.len (e := c4)]⟩
theorem len31 (x : api_Edge) : (c31 x).length = 3 := Enc.len (e := c31) x
theorem ok31 (x : api_Edge) : (c31 x).all cellOk = true := by simp only [c31, List.all_append, ok2, ok3, ok4] <;> rfl
theorem fr31 (x : api_Edge) : freeL (c31 x) = true := by simp only [c31, freeL_append, fr2, fr3, fr4] <;> rfl
abbrev c23 : (List api_Edge) → List AV := fun x => [.ssl (encs c31 x) x.length false]
instance : Enc c23 1 := ⟨fun _ => rfl⟩
theorem ok23 (x : (List api_Edge)) : (c23 x).all cellOk = true := rfl
theorem fr23 (x : (List api_Edge)) : freeL (c23 x) = true := by simp [freeL, free, freeL_encs fr31]
structure api_Node where
  Head : api_Head
  Bytes : (List Int)
  Kids : (List api_Edge)

def c37 (x : api_Node) : List AV := c34 x.Head ++ (c35 x.Bytes ++ (c23 x.Kids))
instance : Enc c37 5 := ⟨fun x => by simp only [c37, List.length_append, Enc.len (e := c23), Enc.len (e := c34), Enc.len (e := c35)]⟩
theorem len37 (x : api_Node) : (c37 x).length = 5 := Enc.len (e := c37) x
theorem ok37 (x : api_Node) : (c37 x).all cellOk = true := by simp only [c37, List.all_append, ok23, ok34, ok35] <;> rfl
theorem fr37 (x : api_Node) : freeL (c37 x) = true := by simp only [c37, freeL_append, fr23, fr34, fr35] <;> rfl
abbrev c22 : (List api_Node) → List AV := fun x => [.ssl (encs c37 x) x.length false]
instance : Enc c22 1 := ⟨fun _ => rfl⟩
theorem ok22 (x : (List api_Node)) : (c22 x).all cellOk = true := rfl
theorem fr22 (x : (List api_Node)) : freeL (c22 x) = true := by simp [freeL, free, freeL_encs fr37]
abbrev c9 : ByteArray → List AV := fun x => [.sc (.string x)]
instance : Enc c9 1 := ⟨fun _ => rfl⟩
theorem ok9 (x : ByteArray) : (c9 x).all cellOk = true := rfl
theorem fr9 (x : ByteArray) : freeL (c9 x) = true := rfl
abbrev c138 : (List Int) → List AV := fun x => [.ssl (encs c3 x) x.length false]
instance : Enc c138 1 := ⟨fun _ => rfl⟩
theorem ok138 (x : (List Int)) : (c138 x).all cellOk = true := rfl
theorem fr138 (x : (List Int)) : freeL (c138 x) = true := by simp [freeL, free, freeL_encs fr3]
abbrev c215 : Int → List AV := fun x => [.sc (.int .i64 x)]
instance : Enc c215 1 := ⟨fun _ => rfl⟩
theorem ok215 (x : Int) : (c215 x).all cellOk = true := rfl
theorem fr215 (x : Int) : freeL (c215 x) = true := rfl
theorem pd23 (l : List AV) (o : Nat) : partOf T.T 23 (l.drop o) 0 = partOf T.T 23 l o := partOf_drop T.t23 (by decide) l o
theorem ld_37_4_23 (x : api_Node) : partOf T.T 23 (c37 x) 4 = some (.ssl (encs c31 x.Kids) x.Kids.length false) := by
  rw [c37]
  rw [show 4 = 3 + 1 from rfl, part_skip T.t23 (Enc.len (e := c34) _)]
  rw [show 1 = 1 + 0 from rfl, part_skip T.t23 (Enc.len (e := c35) _)]
  rfl
theorem pd35 (l : List AV) (o : Nat) : partOf T.T 35 (l.drop o) 0 = partOf T.T 35 l o := partOf_drop T.t35 (by decide) l o
theorem ld_37_3_35 (x : api_Node) : partOf T.T 35 (c37 x) 3 = some (.ssl (encs c5 x.Bytes) x.Bytes.length false) := by
  rw [c37]
  rw [show 3 = 3 + 0 from rfl, part_skip T.t35 (Enc.len (e := c34) _)]
  rw [part_head T.t35 (by decide) (by rw [Enc.len (e := c35)]; decide)]
  rfl
theorem pd31 (l : List AV) (o : Nat) : partOf T.T 31 (l.drop o) 0 = partOf T.T 31 l o := partOf_drop T.t31 (by decide) l o
theorem ld_31_0_31 (x : api_Edge) : partOf T.T 31 (c31 x) 0 = some (.agg (c31 x)) := part_all T.t31 rfl (by rw [len31])
theorem eq4 (d : Nat) (x y : Bool) : eqT T.T (d + 1) 4 (.sc (.bool x)) (.sc (.bool y)) = some (x == y) := by simp [eqT, T.t4]
theorem eqM4 (x y : Bool) : eqT T.T Op.maxDepth 4 (.sc (.bool x)) (.sc (.bool y)) = some (x == y) := eq4 9999 x y
theorem eq3 (d : Nat) (x y : Int) : eqT T.T (d + 1) 3 (.sc (.int .i64 x)) (.sc (.int .i64 y)) = some (x == y) := by simp [eqT, T.t3]
theorem eqM3 (x y : Int) : eqT T.T Op.maxDepth 3 (.sc (.int .i64 x)) (.sc (.int .i64 y)) = some (x == y) := eq3 9999 x y
theorem eq2 (d : Nat) (x y : Int) : eqT T.T (d + 1) 2 (.sc (.int .i64 x)) (.sc (.int .i64 y)) = some (x == y) := by simp [eqT, T.t2]
theorem eqM2 (x y : Int) : eqT T.T Op.maxDepth 2 (.sc (.int .i64 x)) (.sc (.int .i64 y)) = some (x == y) := eq2 9999 x y
theorem ld_31_0_4 (x : api_Edge) : partOf T.T 4 (c31 x) 0 = some (.sc (.bool x.Is)) := by
  rw [c31]
  rw [part_head T.t4 (by decide) (by rw [Enc.len (e := c4)]; decide)]
  rfl
theorem ld_31_1_3 (x : api_Edge) : partOf T.T 3 (c31 x) 1 = some (.sc (.int .i64 x.Node)) := by
  rw [c31]
  rw [show 1 = 1 + 0 from rfl, part_skip T.t3 (Enc.len (e := c4) _)]
  rw [part_head T.t3 (by decide) (by rw [Enc.len (e := c3)]; decide)]
  rfl
theorem ld_31_2_2 (x : api_Edge) : partOf T.T 2 (c31 x) 2 = some (.sc (.int .i64 x.Num)) := by
  rw [c31]
  rw [show 2 = 1 + 1 from rfl, part_skip T.t2 (Enc.len (e := c4) _)]
  rw [show 1 = 1 + 0 from rfl, part_skip T.t2 (Enc.len (e := c3) _)]
  rfl
theorem eq31 (d : Nat) (x y : api_Edge) : eqT T.T (d + 2) 31 (.agg (c31 x)) (.agg (c31 y)) = some ((x.Is == y.Is) && ((x.Node == y.Node) && ((x.Num == y.Num)))) := by
  simp only [eqT, T.t31, if_true, eqT.eqFs, ld_31_0_4, ld_31_1_3, ld_31_2_2, eq4, eq3, eq2]
  simp
theorem eqM31 (x y : api_Edge) : eqT T.T Op.maxDepth 31 (.agg (c31 x)) (.agg (c31 y)) = some ((x.Is == y.Is) && ((x.Node == y.Node) && ((x.Num == y.Num)))) := eq31 9998 x y
theorem pd37 (l : List AV) (o : Nat) : partOf T.T 37 (l.drop o) 0 = partOf T.T 37 l o := partOf_drop T.t37 (by decide) l o
theorem ld_37_0_37 (x : api_Node) : partOf T.T 37 (c37 x) 0 = some (.agg (c37 x)) := part_all T.t37 rfl (by rw [len37])
theorem st_37_0_37 (x : api_Node) (v : api_Node) : splice (c37 x) 0 (c37 v) = c37 v := by
  exact splice_all (by simp only [Enc.len (e := c37)])
theorem ld_37_0_34 (x : api_Node) : partOf T.T 34 (c37 x) 0 = some (.agg (c34 x.Head)) := by
  rw [c37]
  rw [part_head T.t34 (by decide) (by rw [Enc.len (e := c34)]; decide)]
  exact part_all T.t34 rfl (by rw [len34])
theorem ld_34_0_3 (x : api_Head) : partOf T.T 3 (c34 x) 0 = some (.sc (.int .i64 x.Kind)) := by
  rw [c34]
  rw [part_head T.t3 (by decide) (by rw [Enc.len (e := c3)]; decide)]
  rfl
theorem ld_34_1_3 (x : api_Head) : partOf T.T 3 (c34 x) 1 = some (.sc (.int .i64 x.Tag)) := by
  rw [c34]
  rw [show 1 = 1 + 0 from rfl, part_skip T.t3 (Enc.len (e := c3) _)]
  rw [part_head T.t3 (by decide) (by rw [Enc.len (e := c3)]; decide)]
  rfl
theorem ld_34_2_3 (x : api_Head) : partOf T.T 3 (c34 x) 2 = some (.sc (.int .i64 x.Count)) := by
  rw [c34]
  rw [show 2 = 1 + 1 from rfl, part_skip T.t3 (Enc.len (e := c3) _)]
  rw [show 1 = 1 + 0 from rfl, part_skip T.t3 (Enc.len (e := c3) _)]
  rfl
theorem eq34 (d : Nat) (x y : api_Head) : eqT T.T (d + 2) 34 (.agg (c34 x)) (.agg (c34 y)) = some ((x.Kind == y.Kind) && ((x.Tag == y.Tag) && ((x.Count == y.Count)))) := by
  simp only [eqT, T.t34, if_true, eqT.eqFs, ld_34_0_3, ld_34_1_3, ld_34_2_3, eq3, eq3, eq3]
  simp
theorem eqM34 (x y : api_Head) : eqT T.T Op.maxDepth 34 (.agg (c34 x)) (.agg (c34 y)) = some ((x.Kind == y.Kind) && ((x.Tag == y.Tag) && ((x.Count == y.Count)))) := eq34 9998 x y
theorem pd5 (l : List AV) (o : Nat) : partOf T.T 5 (l.drop o) 0 = partOf T.T 5 l o := partOf_drop T.t5 (by decide) l o
theorem pd34 (l : List AV) (o : Nat) : partOf T.T 34 (l.drop o) 0 = partOf T.T 34 l o := partOf_drop T.t34 (by decide) l o
theorem ld_34_0_34 (x : api_Head) : partOf T.T 34 (c34 x) 0 = some (.agg (c34 x)) := part_all T.t34 rfl (by rw [len34])
theorem ld_37_0_3 (x : api_Node) : partOf T.T 3 (c37 x) 0 = some (.sc (.int .i64 x.Head.Kind)) := by
  rw [c37]
  rw [part_head T.t3 (by decide) (by rw [Enc.len (e := c34)]; decide)]
  rw [c34]
  rw [part_head T.t3 (by decide) (by rw [Enc.len (e := c3)]; decide)]
  rfl
theorem ld_37_2_3 (x : api_Node) : partOf T.T 3 (c37 x) 2 = some (.sc (.int .i64 x.Head.Count)) := by
  rw [c37]
  rw [part_head T.t3 (by decide) (by rw [Enc.len (e := c34)]; decide)]
  rw [c34]
  rw [show 2 = 1 + 1 from rfl, part_skip T.t3 (Enc.len (e := c3) _)]
  rw [show 1 = 1 + 0 from rfl, part_skip T.t3 (Enc.len (e := c3) _)]
  rfl
theorem pd3 (l : List AV) (o : Nat) : partOf T.T 3 (l.drop o) 0 = partOf T.T 3 l o := partOf_drop T.t3 (by decide) l o
end Go.Proofs.Ytfflojbgikfbmaa.M
