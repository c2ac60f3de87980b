/-
  Types, as Lean has them, and their cells.
-/
import Derived.Test.YtfbkgjmpadknfaaTab
import Derived.Test.YtfbkgjmpadknfaaAhM
namespace Go.Proofs.Ytfbkgjmpadknfaa.M
open Go.Proofs.YtfbkgjmpadknfaaW.Ah Go.Proofs.Ytfbkgjmpadknfaa
set_option linter.unusedVariables false
set_option linter.unusedSimpArgs false
set_option maxRecDepth 8000
abbrev c4 : Bool → List AV := fun x => [.sc (.bool x)]
instance : Enc c4 1 := ⟨fun _ => rfl⟩
theorem ok4 (x : Bool) : (c4 x).all cellOk = true := rfl
theorem fr4 (x : Bool) : freeL (c4 x) = true := rfl
abbrev c3 : Int → List AV := fun x => [.sc (.int .i64 x)]
instance : Enc c3 1 := ⟨fun _ => rfl⟩
theorem ok3 (x : Int) : (c3 x).all cellOk = true := rfl
theorem fr3 (x : Int) : freeL (c3 x) = true := rfl
abbrev c5 : Int → List AV := fun x => [.sc (.int .u8 x)]
instance : Enc c5 1 := ⟨fun _ => rfl⟩
theorem ok5 (x : Int) : (c5 x).all cellOk = true := rfl
theorem fr5 (x : Int) : freeL (c5 x) = true := rfl
def c95 (x : (Arr 12 Int)) : List AV := encs c5 x.1
instance : Enc c95 12 := ⟨fun x => by simp only [c95, length_encs (e := c5)]; rw [x.2]⟩
theorem len95 (x : (Arr 12 Int)) : (c95 x).length = 12 := Enc.len (e := c95) x
theorem ok95 (x : (Arr 12 Int)) : (c95 x).all cellOk = true := all_encs ok5 x.1
theorem fr95 (x : (Arr 12 Int)) : freeL (c95 x) = true := freeL_encs fr5 x.1
abbrev c2 : Int → List AV := fun x => [.sc (.int .i64 x)]
instance : Enc c2 1 := ⟨fun _ => rfl⟩
theorem ok2 (x : Int) : (c2 x).all cellOk = true := rfl
theorem fr2 (x : Int) : freeL (c2 x) = true := rfl
structure api_Term where
  Exps : (Arr 12 Int)
  Coef : Int

def c97 (x : api_Term) : List AV := c95 x.Exps ++ (c2 x.Coef)
instance : Enc c97 13 := ⟨fun x => by simp only [c97, List.length_append, Enc.len (e := c2), Enc.len (e := c95)]⟩
theorem len97 (x : api_Term) : (c97 x).length = 13 := Enc.len (e := c97) x
theorem ok97 (x : api_Term) : (c97 x).all cellOk = true := by simp only [c97, List.all_append, ok2, ok95]; rfl
theorem fr97 (x : api_Term) : freeL (c97 x) = true := by simp only [c97, freeL_append, fr2, fr95]; rfl
abbrev c37 : (List api_Term) → List AV := fun x => [.ssl (encs c97 x) x.length false]
instance : Enc c37 1 := ⟨fun _ => rfl⟩
theorem ok37 (x : (List api_Term)) : (c37 x).all cellOk = true := rfl
theorem fr37 (x : (List api_Term)) : freeL (c37 x) = true := by simp [freeL, free, freeL_encs fr97]
abbrev c23 : Int → List AV := fun x => [.sc (.int .i64 x)]
instance : Enc c23 1 := ⟨fun _ => rfl⟩
theorem ok23 (x : Int) : (c23 x).all cellOk = true := rfl
theorem fr23 (x : Int) : freeL (c23 x) = true := rfl
abbrev c36 : (List api_Term) → List AV := fun x => [.ssl (encs c97 x) x.length false]
instance : Enc c36 1 := ⟨fun _ => rfl⟩
theorem ok36 (x : (List api_Term)) : (c36 x).all cellOk = true := rfl
theorem fr36 (x : (List api_Term)) : freeL (c36 x) = true := by simp [freeL, free, freeL_encs fr97]
def c112 (x : (Arr 12 Int)) : List AV := encs c5 x.1
instance : Enc c112 12 := ⟨fun x => by simp only [c112, length_encs (e := c5)]; rw [x.2]⟩
theorem len112 (x : (Arr 12 Int)) : (c112 x).length = 12 := Enc.len (e := c112) x
theorem ok112 (x : (Arr 12 Int)) : (c112 x).all cellOk = true := all_encs ok5 x.1
theorem fr112 (x : (Arr 12 Int)) : freeL (c112 x) = true := freeL_encs fr5 x.1
abbrev c50 : (List Int) → List AV := fun x => [.ssl (encs c5 x) x.length false]
instance : Enc c50 1 := ⟨fun _ => rfl⟩
theorem ok50 (x : (List Int)) : (c50 x).all cellOk = true := rfl
theorem fr50 (x : (List Int)) : freeL (c50 x) = true := by simp [freeL, free, freeL_encs fr5]
abbrev c45 : (List Int) → List AV := fun x => [.ssl (encs c2 x) x.length false]
instance : Enc c45 1 := ⟨fun _ => rfl⟩
theorem ok45 (x : (List Int)) : (c45 x).all cellOk = true := rfl
theorem fr45 (x : (List Int)) : freeL (c45 x) = true := by simp [freeL, free, freeL_encs fr2]
abbrev c39 : (List (List api_Term)) → List AV := fun x => [.ssl (encs c37 x) x.length false]
instance : Enc c39 1 := ⟨fun _ => rfl⟩
theorem ok39 (x : (List (List api_Term))) : (c39 x).all cellOk = true := rfl
theorem fr39 (x : (List (List api_Term))) : freeL (c39 x) = true := by simp [freeL, free, freeL_encs fr37]
abbrev c46 : Int → List AV := fun x => [.sc (.int .u32 x)]
instance : Enc c46 1 := ⟨fun _ => rfl⟩
theorem ok46 (x : Int) : (c46 x).all cellOk = true := rfl
theorem fr46 (x : Int) : freeL (c46 x) = true := rfl
theorem st_97_12_2 (x : api_Term) (v : Int) : splice (c97 x) 12 ([.sc (.int .i64 v)]) = c97 ({ x with Coef := v }) := by
  rw [c97, c97]
  all_goals rw [show 12 = 12 + 0 from rfl, splice_skip (Enc.len (e := c95) _)]
  all_goals congr 1
  all_goals rfl
theorem st_97_0_97 (x : api_Term) (v : api_Term) : splice (c97 x) 0 (c97 v) = c97 v := by
  exact splice_all (by simp only [Enc.len (e := c97)])
theorem ld_97_0_97 (x : api_Term) : partOf T.T 97 (c97 x) 0 = some (.agg (c97 x)) := part_all T.t97 rfl (by rw [len97])
theorem pd97 (l : List AV) (o : Nat) : partOf T.T 97 (l.drop o) 0 = partOf T.T 97 l o := partOf_drop T.t97 (by decide) l o
theorem ld_97_0_95 (x : api_Term) : partOf T.T 95 (c97 x) 0 = some (.agg (c95 x.Exps)) := by
  rw [c97]
  rw [part_head T.t95 (by decide) (by rw [Enc.len (e := c95)]; decide)]
  exact part_all T.t95 rfl (by rw [len95])
theorem pd5 (l : List AV) (o : Nat) : partOf T.T 5 (l.drop o) 0 = partOf T.T 5 l o := partOf_drop T.t5 (by decide) l o
theorem ld_97_12_2 (x : api_Term) : partOf T.T 2 (c97 x) 12 = some (.sc (.int .i64 x.Coef)) := by
  rw [c97]
  rw [show 12 = 12 + 0 from rfl, part_skip T.t2 (Enc.len (e := c95) _)]
  rfl
theorem pd95 (l : List AV) (o : Nat) : partOf T.T 95 (l.drop o) 0 = partOf T.T 95 l o := partOf_drop T.t95 (by decide) l o
theorem pd45 (l : List AV) (o : Nat) : partOf T.T 45 (l.drop o) 0 = partOf T.T 45 l o := partOf_drop T.t45 (by decide) l o
theorem ld_45_0_45 (x : (List Int)) : partOf T.T 45 (c45 x) 0 = some (.ssl (encs c2 x) x.length false) := rfl
theorem pd2 (l : List AV) (o : Nat) : partOf T.T 2 (l.drop o) 0 = partOf T.T 2 l o := partOf_drop T.t2 (by decide) l o
theorem pd37 (l : List AV) (o : Nat) : partOf T.T 37 (l.drop o) 0 = partOf T.T 37 l o := partOf_drop T.t37 (by decide) l o
theorem eq95 (d : Nat) (x y : (Arr 12 Int)) : eqT T.T (d + 2) 95 (.agg (c95 x)) (.agg (c95 y)) = some (x.1 == y.1) := by
  simp only [eqT, T.t95, T.t5, if_true]
  have := eqEls_ints (T := T.T) (e := 5) T.t5 rfl d 12 0 x.1 y.1 (by rw [x.2]) (by rw [x.2, y.2])
  simpa [c95] using this
theorem eqM95 (x y : (Arr 12 Int)) : eqT T.T Op.maxDepth 95 (.agg (c95 x)) (.agg (c95 y)) = some (x.1 == y.1) := eq95 9998 x y
theorem eq2 (d : Nat) (x y : Int) : eqT T.T (d + 1) 2 (.sc (.int .i64 x)) (.sc (.int .i64 y)) = some (x == y) := by simp [eqT, T.t2]
theorem eqM2 (x y : Int) : eqT T.T Op.maxDepth 2 (.sc (.int .i64 x)) (.sc (.int .i64 y)) = some (x == y) := eq2 9999 x y
theorem eq97 (d : Nat) (x y : api_Term) : eqT T.T (d + 3) 97 (.agg (c97 x)) (.agg (c97 y)) = some ((x.Exps.1 == y.Exps.1) && ((x.Coef == y.Coef))) := by
  simp only [eqT, T.t97, if_true, eqT.eqFs, ld_97_0_95, ld_97_12_2, eq95, eq2]
  simp
theorem eqM97 (x y : api_Term) : eqT T.T Op.maxDepth 97 (.agg (c97 x)) (.agg (c97 y)) = some ((x.Exps.1 == y.Exps.1) && ((x.Coef == y.Coef))) := eq97 9997 x y
theorem st_95_0_95 (x : (Arr 12 Int)) (v : (Arr 12 Int)) : splice (c95 x) 0 (c95 v) = c95 v := by
  exact splice_all (by simp only [Enc.len (e := c95)])
theorem ld_95_0_95 (x : (Arr 12 Int)) : partOf T.T 95 (c95 x) 0 = some (.agg (c95 x)) := part_all T.t95 rfl (by rw [len95])
theorem eq4 (d : Nat) (x y : Bool) : eqT T.T (d + 1) 4 (.sc (.bool x)) (.sc (.bool y)) = some (x == y) := by simp [eqT, T.t4]
theorem eqM4 (x y : Bool) : eqT T.T Op.maxDepth 4 (.sc (.bool x)) (.sc (.bool y)) = some (x == y) := eq4 9999 x y
theorem ld_3_0_3 (x : Int) : partOf T.T 3 (c3 x) 0 = some (.sc (.int .i64 x)) := rfl
theorem pd3 (l : List AV) (o : Nat) : partOf T.T 3 (l.drop o) 0 = partOf T.T 3 l o := partOf_drop T.t3 (by decide) l o
end Go.Proofs.Ytfbkgjmpadknfaa.M
