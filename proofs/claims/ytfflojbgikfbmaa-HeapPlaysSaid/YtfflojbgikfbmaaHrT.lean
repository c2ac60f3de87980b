/-
  Types, as Lean has them, and their cells.
-/
import Derived.Test.YtfflojbgikfbmaaTab
import Derived.Test.YtfflojbgikfbmaaAhX
import Derived.Test.YtfflojbgikfbmaaAhS
namespace Go.Proofs.Ytfflojbgikfbmaa.M
open Go.Proofs.YtfflojbgikfbmaaW.Ah Go.Proofs.Ytfflojbgikfbmaa
set_option linter.unusedVariables false
set_option linter.unusedSimpArgs false
set_option maxRecDepth 8000
abbrev c40 : Int → List AV := fun x => [.sc (.int .u64 x)]
instance : Enc c40 1 := ⟨fun _ => rfl⟩
theorem ok40 (x : Int) : (c40 x).all cellOk = true := rfl
theorem fr40 (x : Int) : freeL (c40 x) = true := rfl
abbrev c39 : (List Int) → List AV := fun x => [.ssl (encs c40 x) x.length false]
instance : Enc c39 1 := ⟨fun _ => rfl⟩
theorem ok39 (x : (List Int)) : (c39 x).all cellOk = true := rfl
theorem fr39 (x : (List Int)) : freeL (c39 x) = true := by simp [freeL, free, freeL_encs fr40]
abbrev c3 : Int → List AV := fun x => [.sc (.int .i64 x)]
instance : Enc c3 1 := ⟨fun _ => rfl⟩
theorem ok3 (x : Int) : (c3 x).all cellOk = true := rfl
theorem fr3 (x : Int) : freeL (c3 x) = true := rfl
abbrev c4 : Bool → List AV := fun x => [.sc (.bool x)]
instance : Enc c4 1 := ⟨fun _ => rfl⟩
theorem ok4 (x : Bool) : (c4 x).all cellOk = true := rfl
theorem fr4 (x : Bool) : freeL (c4 x) = true := rfl
structure api_Heap where
  Words : (List Int)
  Half : Int
  Up : Bool
  Next : Int
  On : Bool
  Scan : Int

def c93 (x : api_Heap) : List AV := c39 x.Words ++ (c3 x.Half ++ (c4 x.Up ++ (c3 x.Next ++ (c4 x.On ++ (c3 x.Scan)))))
instance : Enc c93 6 := ⟨fun x => by simp only [c93, List.length_append, Enc.len (e := c3), Enc.len (e := c4), Enc.len (e := c39)]⟩
theorem len93 (x : api_Heap) : (c93 x).length = 6 := Enc.len (e := c93) x
theorem ok93 (x : api_Heap) : (c93 x).all cellOk = true := by simp only [c93, List.all_append, ok3, ok4, ok39] <;> rfl
theorem fr93 (x : api_Heap) : freeL (c93 x) = true := by simp only [c93, freeL_append, fr3, fr4, fr39] <;> rfl
structure handloomref16_Heap where
  H : api_Heap

def c176 (x : handloomref16_Heap) : List AV := c93 x.H
instance : Enc c176 6 := ⟨fun x => by simp only [c176, List.length_append, Enc.len (e := c93)]⟩
theorem len176 (x : handloomref16_Heap) : (c176 x).length = 6 := Enc.len (e := c176) x
theorem ok176 (x : handloomref16_Heap) : (c176 x).all cellOk = true := by simp only [c176, List.all_append, ok93] <;> rfl
theorem fr176 (x : handloomref16_Heap) : freeL (c176 x) = true := by simp only [c176, freeL_append, fr93] <;> rfl
structure api_Head where
  Kind : Int
  Tag : Int
  Count : Int

def c34 (x : api_Head) : List AV := c3 x.Kind ++ (c3 x.Tag ++ (c3 x.Count))
instance : Enc c34 3 := ⟨fun x => by simp only [c34, List.length_append, Enc.len (e := c3)]⟩
theorem len34 (x : api_Head) : (c34 x).length = 3 := Enc.len (e := c34) x
theorem ok34 (x : api_Head) : (c34 x).all cellOk = true := by simp only [c34, List.all_append, ok3] <;> rfl
theorem fr34 (x : api_Head) : freeL (c34 x) = true := by simp only [c34, freeL_append, fr3] <;> rfl
abbrev c70 : Int → List AV := fun x => [.sc (.int .u32 x)]
instance : Enc c70 1 := ⟨fun _ => rfl⟩
theorem ok70 (x : Int) : (c70 x).all cellOk = true := rfl
theorem fr70 (x : Int) : freeL (c70 x) = true := rfl
abbrev c5 : Int → List AV := fun x => [.sc (.int .u8 x)]
instance : Enc c5 1 := ⟨fun _ => rfl⟩
theorem ok5 (x : Int) : (c5 x).all cellOk = true := rfl
theorem fr5 (x : Int) : freeL (c5 x) = true := rfl
abbrev c35 : (List Int) → List AV := fun x => [.ssl (encs c5 x) x.length false]
instance : Enc c35 1 := ⟨fun _ => rfl⟩
theorem ok35 (x : (List Int)) : (c35 x).all cellOk = true := rfl
theorem fr35 (x : (List Int)) : freeL (c35 x) = true := by simp [freeL, free, freeL_encs fr5]
abbrev c148 : Int → List AV := fun x => [.sc (.int .u64 x)]
instance : Enc c148 1 := ⟨fun _ => rfl⟩
theorem ok148 (x : Int) : (c148 x).all cellOk = true := rfl
theorem fr148 (x : Int) : freeL (c148 x) = true := rfl
abbrev c9 : ByteArray → List AV := fun x => [.sc (.string x)]
instance : Enc c9 1 := ⟨fun _ => rfl⟩
theorem ok9 (x : ByteArray) : (c9 x).all cellOk = true := rfl
theorem fr9 (x : ByteArray) : freeL (c9 x) = true := rfl
structure handloomlaw16_Do where
  Kind : Int
  X : api_Head
  L : (List Int)
  W : Int
  I : Int

def c113 (x : handloomlaw16_Do) : List AV := c5 x.Kind ++ (c34 x.X ++ (c39 x.L ++ (c40 x.W ++ (c3 x.I))))
instance : Enc c113 7 := ⟨fun x => by simp only [c113, List.length_append, Enc.len (e := c3), Enc.len (e := c5), Enc.len (e := c34), Enc.len (e := c39), Enc.len (e := c40)]⟩
theorem len113 (x : handloomlaw16_Do) : (c113 x).length = 7 := Enc.len (e := c113) x
theorem ok113 (x : handloomlaw16_Do) : (c113 x).all cellOk = true := by simp only [c113, List.all_append, ok3, ok5, ok34, ok39, ok40] <;> rfl
theorem fr113 (x : handloomlaw16_Do) : freeL (c113 x) = true := by simp only [c113, freeL_append, fr3, fr5, fr34, fr39, fr40] <;> rfl
abbrev c106 : (List handloomlaw16_Do) → List AV := fun x => [.ssl (encs c113 x) x.length false]
instance : Enc c106 1 := ⟨fun _ => rfl⟩
theorem ok106 (x : (List handloomlaw16_Do)) : (c106 x).all cellOk = true := rfl
theorem fr106 (x : (List handloomlaw16_Do)) : freeL (c106 x) = true := by simp [freeL, free, freeL_encs fr113]
theorem eqPSd108 (d : Nat) (cs : List AV) : eqT T.T (d + 1) 108 (.sh cs) (.sc (.pointer none)) = some false := by simp [eqT, T.t108]
theorem eqPS108 (cs : List AV) : eqT T.T Op.maxDepth 108 (.sh cs) (.sc (.pointer none)) = some false := eqPSd108 9999 cs
theorem eqPOd108 (d : Nat) (i o : Nat) : eqT T.T (d + 1) 108 (.own i o) (.sc (.pointer none)) = some false := by simp [eqT, T.t108]
theorem eqPO108 (i o : Nat) : eqT T.T Op.maxDepth 108 (.own i o) (.sc (.pointer none)) = some false := eqPOd108 9999 i o
theorem pd3 (l : List AV) (o : Nat) : partOf T.T 3 (l.drop o) 0 = partOf T.T 3 l o := partOf_drop T.t3 (by decide) l o
theorem ld_176_1_3 (x : handloomref16_Heap) : partOf T.T 3 (c176 x) 1 = some (.sc (.int .i64 x.H.Half)) := by
  rw [c176]
  rw [c93]
  rw [show 1 = 1 + 0 from rfl, part_skip T.t3 (Enc.len (e := c39) _)]
  rw [part_head T.t3 (by decide) (by rw [Enc.len (e := c3)]; decide)]
  rfl
theorem st_34_0_34 (x : api_Head) (v : api_Head) : splice (c34 x) 0 (c34 v) = c34 v := by
  exact splice_all (by simp only [Enc.len (e := c34)])
theorem ld_34_0_34 (x : api_Head) : partOf T.T 34 (c34 x) 0 = some (.agg (c34 x)) := part_all T.t34 rfl (by rw [len34])
theorem pd39 (l : List AV) (o : Nat) : partOf T.T 39 (l.drop o) 0 = partOf T.T 39 l o := partOf_drop T.t39 (by decide) l o
theorem ld_176_0_39 (x : handloomref16_Heap) : partOf T.T 39 (c176 x) 0 = some (.ssl (encs c40 x.H.Words) x.H.Words.length false) := by
  rw [c176]
  rw [c93]
  rw [part_head T.t39 (by decide) (by rw [Enc.len (e := c39)]; decide)]
  rfl
theorem pd40 (l : List AV) (o : Nat) : partOf T.T 40 (l.drop o) 0 = partOf T.T 40 l o := partOf_drop T.t40 (by decide) l o
theorem st_34_0_3 (x : api_Head) (v : Int) : splice (c34 x) 0 ([.sc (.int .i64 v)]) = c34 ({ x with Kind := v }) := by
  rw [c34, c34]
  all_goals rw [splice_head (by simp [Enc.len (e := c3), len_one])]
  all_goals congr 1
  all_goals rfl
theorem st_34_1_3 (x : api_Head) (v : Int) : splice (c34 x) 1 ([.sc (.int .i64 v)]) = c34 ({ x with Tag := v }) := by
  rw [c34, c34]
  all_goals rw [show 1 = 1 + 0 from rfl, splice_skip (Enc.len (e := c3) _)]
  all_goals congr 1
  all_goals rw [splice_head (by simp [Enc.len (e := c3), len_one])]
  all_goals congr 1
  all_goals rfl
theorem st_34_2_3 (x : api_Head) (v : Int) : splice (c34 x) 2 ([.sc (.int .i64 v)]) = c34 ({ x with Count := v }) := by
  rw [c34, c34]
  all_goals rw [show 2 = 1 + 1 from rfl, splice_skip (Enc.len (e := c3) _)]
  all_goals congr 1
  all_goals rw [show 1 = 1 + 0 from rfl, splice_skip (Enc.len (e := c3) _)]
  all_goals congr 1
  all_goals rfl
theorem ld_34_0_3 (x : api_Head) : partOf T.T 3 (c34 x) 0 = some (.sc (.int .i64 x.Kind)) := by
  rw [c34]
  rw [part_head T.t3 (by decide) (by rw [Enc.len (e := c3)]; decide)]
  rfl
theorem ld_34_1_3 (x : api_Head) : partOf T.T 3 (c34 x) 1 = some (.sc (.int .i64 x.Tag)) := by
  rw [c34]
  rw [show 1 = 1 + 0 from rfl, part_skip T.t3 (Enc.len (e := c3) _)]
  rw [part_head T.t3 (by decide) (by rw [Enc.len (e := c3)]; decide)]
  rfl
theorem ld_34_2_3 (x : api_Head) : partOf T.T 3 (c34 x) 2 = some (.sc (.int .i64 x.Count)) := by
  rw [c34]
  rw [show 2 = 1 + 1 from rfl, part_skip T.t3 (Enc.len (e := c3) _)]
  rw [show 1 = 1 + 0 from rfl, part_skip T.t3 (Enc.len (e := c3) _)]
  rfl
theorem pd93 (l : List AV) (o : Nat) : partOf T.T 93 (l.drop o) 0 = partOf T.T 93 l o := partOf_drop T.t93 (by decide) l o
theorem ld_176_0_93 (x : handloomref16_Heap) : partOf T.T 93 (c176 x) 0 = some (.agg (c93 x.H)) := by
  rw [c176]
  exact part_all T.t93 rfl (by rw [len93])
theorem ld_93_2_4 (x : api_Heap) : partOf T.T 4 (c93 x) 2 = some (.sc (.bool x.Up)) := by
  rw [c93]
  rw [show 2 = 1 + 1 from rfl, part_skip T.t4 (Enc.len (e := c39) _)]
  rw [show 1 = 1 + 0 from rfl, part_skip T.t4 (Enc.len (e := c3) _)]
  rw [part_head T.t4 (by decide) (by rw [Enc.len (e := c4)]; decide)]
  rfl
theorem ld_93_1_3 (x : api_Heap) : partOf T.T 3 (c93 x) 1 = some (.sc (.int .i64 x.Half)) := by
  rw [c93]
  rw [show 1 = 1 + 0 from rfl, part_skip T.t3 (Enc.len (e := c39) _)]
  rw [part_head T.t3 (by decide) (by rw [Enc.len (e := c3)]; decide)]
  rfl
theorem ld_176_3_3 (x : handloomref16_Heap) : partOf T.T 3 (c176 x) 3 = some (.sc (.int .i64 x.H.Next)) := by
  rw [c176]
  rw [c93]
  rw [show 3 = 1 + 2 from rfl, part_skip T.t3 (Enc.len (e := c39) _)]
  rw [show 2 = 1 + 1 from rfl, part_skip T.t3 (Enc.len (e := c3) _)]
  rw [show 1 = 1 + 0 from rfl, part_skip T.t3 (Enc.len (e := c4) _)]
  rw [part_head T.t3 (by decide) (by rw [Enc.len (e := c3)]; decide)]
  rfl
theorem ld_93_0_39 (x : api_Heap) : partOf T.T 39 (c93 x) 0 = some (.ssl (encs c40 x.Words) x.Words.length false) := by
  rw [c93]
  rw [part_head T.t39 (by decide) (by rw [Enc.len (e := c39)]; decide)]
  rfl
theorem ld_93_0_93 (x : api_Heap) : partOf T.T 93 (c93 x) 0 = some (.agg (c93 x)) := part_all T.t93 rfl (by rw [len93])
theorem ld_93_3_3 (x : api_Heap) : partOf T.T 3 (c93 x) 3 = some (.sc (.int .i64 x.Next)) := by
  rw [c93]
  rw [show 3 = 1 + 2 from rfl, part_skip T.t3 (Enc.len (e := c39) _)]
  rw [show 2 = 1 + 1 from rfl, part_skip T.t3 (Enc.len (e := c3) _)]
  rw [show 1 = 1 + 0 from rfl, part_skip T.t3 (Enc.len (e := c4) _)]
  rw [part_head T.t3 (by decide) (by rw [Enc.len (e := c3)]; decide)]
  rfl
theorem ld_93_5_3 (x : api_Heap) : partOf T.T 3 (c93 x) 5 = some (.sc (.int .i64 x.Scan)) := by
  rw [c93]
  rw [show 5 = 1 + 4 from rfl, part_skip T.t3 (Enc.len (e := c39) _)]
  rw [show 4 = 1 + 3 from rfl, part_skip T.t3 (Enc.len (e := c3) _)]
  rw [show 3 = 1 + 2 from rfl, part_skip T.t3 (Enc.len (e := c4) _)]
  rw [show 2 = 1 + 1 from rfl, part_skip T.t3 (Enc.len (e := c3) _)]
  rw [show 1 = 1 + 0 from rfl, part_skip T.t3 (Enc.len (e := c4) _)]
  rfl
theorem ld_93_4_4 (x : api_Heap) : partOf T.T 4 (c93 x) 4 = some (.sc (.bool x.On)) := by
  rw [c93]
  rw [show 4 = 1 + 3 from rfl, part_skip T.t4 (Enc.len (e := c39) _)]
  rw [show 3 = 1 + 2 from rfl, part_skip T.t4 (Enc.len (e := c3) _)]
  rw [show 2 = 1 + 1 from rfl, part_skip T.t4 (Enc.len (e := c4) _)]
  rw [show 1 = 1 + 0 from rfl, part_skip T.t4 (Enc.len (e := c3) _)]
  rw [part_head T.t4 (by decide) (by rw [Enc.len (e := c4)]; decide)]
  rfl
theorem eq4 (d : Nat) (x y : Bool) : eqT T.T (d + 1) 4 (.sc (.bool x)) (.sc (.bool y)) = some (x == y) := by simp [eqT, T.t4]
theorem eqM4 (x y : Bool) : eqT T.T Op.maxDepth 4 (.sc (.bool x)) (.sc (.bool y)) = some (x == y) := eq4 9999 x y
end Go.Proofs.Ytfflojbgikfbmaa.M
