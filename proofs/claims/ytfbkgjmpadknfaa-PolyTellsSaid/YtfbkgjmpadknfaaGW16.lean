/-
  The functions come to them.
-/
import Derived.Test.YtfbkgjmpadknfaaGM
import Derived.Test.YtfbkgjmpadknfaaGW0
import Derived.Test.YtfbkgjmpadknfaaGW1
import Derived.Test.YtfbkgjmpadknfaaGW3
import Derived.Test.YtfbkgjmpadknfaaGW4
import Derived.Test.YtfbkgjmpadknfaaGW11
import Derived.Test.YtfbkgjmpadknfaaGW14
import Derived.Test.YtfbkgjmpadknfaaGW15
namespace Go.Proofs.Ytfbkgjmpadknfaa.M
open Go.Proofs.YtfbkgjmpadknfaaW.Ah Go.Proofs.Ytfbkgjmpadknfaa
set_option linter.unusedVariables false
set_option linter.unusedSimpArgs false
set_option maxRecDepth 8000
attribute [local simp] T.t2 T.t3 T.t4 T.t23 T.t37 T.t45 List.range List.range.loop
attribute [-simp] appendAV fillAV
theorem ok_L13_PolyTells (F : Nat) (a0 : (List api_Term)) (a1 : (List api_Term)) (a2 : Int) (a3 : Int) (a4 : (List Int)) (r : Bool) (h : L13_PolyTells F a0 a1 a2 a3 a4 = some r) : RunF Try.prog T.T 8 [.ssl (encs c97 a0) a0.length false, .ssl (encs c97 a1) a1.length false, .sc (.int .i64 a2), .sc (.int .i64 a3), .ssl (encs c2 a4) a4.length false] (.sc (.bool r)) := by
  rw [L13_PolyTells] at h
  refine RunF.z Try.func8 rfl rfl rfl rfl rfl (fun C hr => ?_)
  refine Stk.gen (fun t H n => t 0 = .ssl (encs c97 a0) a0.length false ∧ t 1 = .ssl (encs c97 a1) a1.length false ∧ t 2 = .sc (.int .i64 a2) ∧ t 3 = .sc (.int .i64 a3) ∧ t 4 = .ssl (encs c2 a4) a4.length false) ⟨by simp, by simp, by simp, by simp, by simp⟩ ?_
  rintro t H n ⟨f0, f1, f2, f3, f4⟩
  refine Stk.sq ?_
  refine Stk.rg ?_
  refine Stk.run 1 (fun t H n => t 0 = .ssl (encs c97 a0) a0.length false ∧ t 1 = .ssl (encs c97 a1) a1.length false ∧ t 2 = .sc (.int .i64 a2) ∧ t 3 = .sc (.int .i64 a3) ∧ t 4 = .ssl (encs c2 a4) a4.length false) (fun J hJ => ?_) ?_
  · simp [-splice, f0, f1, f2, f3, f4]
    exact hJ _ _ _ ⟨by simp [f0], by simp [f1], by simp [f2], by simp [f3], by simp [f4]⟩
  clear f0 f1 f2 f3 f4
  rintro t H n ⟨f0, f1, f2, f3, f4⟩
  refine Stk.on ?_
  refine Stk.sq ?_
  refine Stk.sq ?_
  refine Stk.rg ?_
  refine Stk.run 4 (fun t H n => t 0 = .ssl (encs c97 a0) a0.length false ∧ t 1 = .ssl (encs c97 a1) a1.length false ∧ t 2 = .sc (.int .i64 a2) ∧ t 3 = .sc (.int .i64 a3) ∧ t 4 = .ssl (encs c2 a4) a4.length false ∧ t 32 = .sc (.bool (decide (200 < (a0.length : Int))))) (fun J hJ => ?_) ?_
  · simp [-splice, f0, f1, f2, f3, f4]
    exact hJ _ _ _ ⟨by simp [f0], by simp [f1], by simp [f2], by simp [f3], by simp [f4], by simp [-splice, f0, f1, f2, f3, f4]⟩
  clear f0 f1 f2 f3 f4
  rintro t H n ⟨f0, f1, f2, f3, f4, f32⟩
  obtain ⟨K1, hK1, h⟩ := jnd h
  refine Stk.jo 4 (fun t H n => ∃ v1 : Bool, K1 v1 = some r ∧ t 0 = .ssl (encs c97 a0) a0.length false ∧ t 1 = .ssl (encs c97 a1) a1.length false ∧ t 2 = .sc (.int .i64 a2) ∧ t 3 = .sc (.int .i64 a3) ∧ t 4 = .ssl (encs c2 a4) a4.length false ∧ t 36 = .sc (.bool v1)) (fun J1 hJ1 => ?_) ?_
  · rcases Bool.eq_false_or_eq_true (decide (200 < (a0.length : Int))) with hb1 | hb1
    · rw [hb1] at f32
      replace h := cT hb1 h
      refine Stk.run 4 (fun t H n => t 0 = .ssl (encs c97 a0) a0.length false ∧ t 1 = .ssl (encs c97 a1) a1.length false ∧ t 2 = .sc (.int .i64 a2) ∧ t 3 = .sc (.int .i64 a3) ∧ t 4 = .ssl (encs c2 a4) a4.length false ∧ t 36 = .sc (.bool true)) (fun J hJ => ?_) ?_
      · simp [-splice, f0, f1, f2, f3, f4, f32]
        exact hJ _ _ _ ⟨by simp [f0], by simp [f1], by simp [f2], by simp [f3], by simp [f4], by simp [-splice, f0, f1, f2, f3, f4, f32]⟩
      clear f0 f1 f2 f3 f4 f32
      rintro t H n ⟨f0, f1, f2, f3, f4, f36⟩
      refine Stk.on ?_
      exact Stk.ln 0 (by decide) (hJ1 _ _ _ ⟨true, h, f0, f1, f2, f3, f4, f36⟩)
    · rw [hb1] at f32
      replace h := cF hb1 h
      refine Stk.run 1 (fun t H n => t 0 = .ssl (encs c97 a0) a0.length false ∧ t 1 = .ssl (encs c97 a1) a1.length false ∧ t 2 = .sc (.int .i64 a2) ∧ t 3 = .sc (.int .i64 a3) ∧ t 4 = .ssl (encs c2 a4) a4.length false ∧ t 32 = .sc (.bool false) ∧ t 33 = .ssl (encs c97 a1) a1.length false) (fun J hJ => ?_) ?_
      · simp [-splice, f0, f1, f2, f3, f4, f32]
        exact hJ _ _ _ ⟨by simp [f0], by simp [f1], by simp [f2], by simp [f3], by simp [f4], by simp [f32], by simp [-splice, f0, f1, f2, f3, f4, f32]⟩
      clear f0 f1 f2 f3 f4 f32
      rintro t H n ⟨f0, f1, f2, f3, f4, f32, f33⟩
      obtain ⟨x2, hx2, h⟩ := bnd h
      refine Stk.cv (g := 23) (args := [.ssl (encs c97 a1) a1.length false]) (args' := [.ssl (encs c97 a1) a1.length false]) (v := .sc (.bool x2)) [] (ok_R13_Fit F _ _ hx2) (by simp [f0, f1, f2, f3, f4, f32, f33]) rfl rfl (by simp [f0, f1, f2, f3, f4, f32, f33]) (.cons (.free (freeL_encs fr97 _)) (.nil)) (.inl ⟨rfl, rfl⟩) (fun t' ht' => ?_)
      refine Stk.gen (fun t H n => t 0 = .ssl (encs c97 a0) a0.length false ∧ t 1 = .ssl (encs c97 a1) a1.length false ∧ t 2 = .sc (.int .i64 a2) ∧ t 3 = .sc (.int .i64 a3) ∧ t 4 = .ssl (encs c2 a4) a4.length false ∧ t 32 = .sc (.bool false) ∧ t 34 = .sc (.bool x2)) ⟨by simp [ht', f0], by simp [ht', f1], by simp [ht', f2], by simp [ht', f3], by simp [ht', f4], by simp [ht', f32], by simp [ht']⟩ ?_
      clear f0 f1 f2 f3 f4 f32 f33 ht' t'
      rintro t H n ⟨f0, f1, f2, f3, f4, f32, f34⟩
      refine Stk.run 2 (fun t H n => t 0 = .ssl (encs c97 a0) a0.length false ∧ t 1 = .ssl (encs c97 a1) a1.length false ∧ t 2 = .sc (.int .i64 a2) ∧ t 3 = .sc (.int .i64 a3) ∧ t 4 = .ssl (encs c2 a4) a4.length false ∧ t 36 = .sc (.bool (!x2))) (fun J hJ => ?_) ?_
      · simp [-splice, f0, f1, f2, f3, f4, f32, f34]
        exact hJ _ _ _ ⟨by simp [f0], by simp [f1], by simp [f2], by simp [f3], by simp [f4], by simp [-splice, f0, f1, f2, f3, f4, f32, f34]⟩
      clear f0 f1 f2 f3 f4 f32 f34
      rintro t H n ⟨f0, f1, f2, f3, f4, f36⟩
      refine Stk.on ?_
      exact Stk.ln 0 (by decide) (hJ1 _ _ _ ⟨(!x2), h, f0, f1, f2, f3, f4, f36⟩)
  clear h f0 f1 f2 f3 f4 f32
  rintro t H n ⟨v1, h, f0, f1, f2, f3, f4, f36⟩
  subst hK1
  refine Stk.run 1 (fun t H n => t 0 = .ssl (encs c97 a0) a0.length false ∧ t 1 = .ssl (encs c97 a1) a1.length false ∧ t 2 = .sc (.int .i64 a2) ∧ t 3 = .sc (.int .i64 a3) ∧ t 4 = .ssl (encs c2 a4) a4.length false ∧ t 37 = .sc (.bool v1)) (fun J hJ => ?_) ?_
  · simp [-splice, f0, f1, f2, f3, f4, f36]
    exact hJ _ _ _ ⟨by simp [f0], by simp [f1], by simp [f2], by simp [f3], by simp [f4], by simp [-splice, f0, f1, f2, f3, f4, f36]⟩
  clear f0 f1 f2 f3 f4 f36
  rintro t H n ⟨f0, f1, f2, f3, f4, f37⟩
  refine Stk.jo 4 (fun t H n => t 0 = .ssl (encs c97 a0) a0.length false ∧ t 1 = .ssl (encs c97 a1) a1.length false ∧ t 2 = .sc (.int .i64 a2) ∧ t 3 = .sc (.int .i64 a3) ∧ t 4 = .ssl (encs c2 a4) a4.length false ∧ t 41 = .sc (.bool (v1 || (decide (50 < (a4.length : Int)))))) (fun J2 hJ2 => ?_) ?_
  · rcases Bool.eq_false_or_eq_true v1 with hb2 | hb2
    · rw [hb2] at f37
      refine Stk.run 4 (fun t H n => t 0 = .ssl (encs c97 a0) a0.length false ∧ t 1 = .ssl (encs c97 a1) a1.length false ∧ t 2 = .sc (.int .i64 a2) ∧ t 3 = .sc (.int .i64 a3) ∧ t 4 = .ssl (encs c2 a4) a4.length false ∧ t 41 = .sc (.bool true)) (fun J hJ => ?_) ?_
      · simp [-splice, f0, f1, f2, f3, f4, f37]
        exact hJ _ _ _ ⟨by simp [f0], by simp [f1], by simp [f2], by simp [f3], by simp [f4], by simp [-splice, f0, f1, f2, f3, f4, f37]⟩
      clear f0 f1 f2 f3 f4 f37
      rintro t H n ⟨f0, f1, f2, f3, f4, f41⟩
      refine Stk.on ?_
      exact Stk.ln 0 (by decide) (hJ2 _ _ _ ⟨f0, f1, f2, f3, f4, f41.trans (congrArg (fun q => AV.sc (.bool q)) (by rw [hb2]; rfl))⟩)
    · rw [hb2] at f37
      refine Stk.run 4 (fun t H n => t 0 = .ssl (encs c97 a0) a0.length false ∧ t 1 = .ssl (encs c97 a1) a1.length false ∧ t 2 = .sc (.int .i64 a2) ∧ t 3 = .sc (.int .i64 a3) ∧ t 4 = .ssl (encs c2 a4) a4.length false ∧ t 41 = .sc (.bool (decide (50 < (a4.length : Int))))) (fun J hJ => ?_) ?_
      · simp [-splice, f0, f1, f2, f3, f4, f37]
        exact hJ _ _ _ ⟨by simp [f0], by simp [f1], by simp [f2], by simp [f3], by simp [f4], by simp [-splice, f0, f1, f2, f3, f4, f37]⟩
      clear f0 f1 f2 f3 f4 f37
      rintro t H n ⟨f0, f1, f2, f3, f4, f41⟩
      refine Stk.on ?_
      exact Stk.ln 0 (by decide) (hJ2 _ _ _ ⟨f0, f1, f2, f3, f4, f41.trans (congrArg (fun q => AV.sc (.bool q)) (by rw [hb2]; rfl))⟩)
  clear f0 f1 f2 f3 f4 f37
  rintro t H n ⟨f0, f1, f2, f3, f4, f41⟩
  refine Stk.on ?_
  refine Stk.cond (v1 || (decide (50 < (a4.length : Int)))) (by exact f41) (fun hb3 => ?_) (fun hb3 => ?_)
  · have h := cT hb3 h
    refine Stk.sq ?_
    refine Stk.rg ?_
    obtain ⟨x4, hx4, h⟩ := bnd h
    refine Stk.cv (g := 19) (args := []) (args' := []) (v := .sc (.bool x4)) [] (ok_L13_awake F  _ hx4) (by simp [f0, f1, f2, f3, f4, f41]) rfl rfl (by simp [f0, f1, f2, f3, f4, f41]) (.nil) (.inl ⟨rfl, rfl⟩) (fun t' ht' => ?_)
    refine Stk.gen (fun t H n => t 42 = .sc (.bool x4)) (by simp [ht']) ?_
    clear f0 f1 f2 f3 f4 f41 ht' t'
    rintro t H n f42
    refine Stk.run 1 (fun t H n => t 10 = .sc (.bool x4)) (fun J hJ => ?_) ?_
    · simp [-splice, f42]
      exact hJ _ _ _ (by simp [-splice, f42])
    clear f42
    rintro t H n f10
    refine Stk.on ?_
    refine Stk.rt ?_
    have hq := Option.some.inj h; subst hq
    exact (hr _ _ _ (.sc (.bool x4)) ([]) (by simp [f10]) (.inr (.inr (.free (rfl))))).1
  · have h := cF hb3 h
    refine Stk.sk ?_
    refine Stk.sq ?_
    refine Stk.rg ?_
    refine Stk.run 1 (fun t H n => t 0 = .ssl (encs c97 a0) a0.length false ∧ t 1 = .ssl (encs c97 a1) a1.length false ∧ t 2 = .sc (.int .i64 a2) ∧ t 3 = .sc (.int .i64 a3) ∧ t 4 = .ssl (encs c2 a4) a4.length false ∧ t 44 = .sc (.int .i64 a2)) (fun J hJ => ?_) ?_
    · simp [-splice, f0, f1, f2, f3, f4, f41]
      exact hJ _ _ _ ⟨by simp [f0], by simp [f1], by simp [f2], by simp [f3], by simp [f4], by simp [-splice, f0, f1, f2, f3, f4, f41]⟩
    clear f0 f1 f2 f3 f4 f41
    rintro t H n ⟨f0, f1, f2, f3, f4, f44⟩
    obtain ⟨x5, hx5, h⟩ := bnd h
    refine Stk.cv (g := 31) (args := [.sc (.int .i64 a2)]) (args' := [.sc (.int .i64 a2)]) (v := .tup [.ssl (encs c97 x5.1) x5.1.length false, .sc (.int .i64 x5.2)]) [] (ok_poly_Num F _ _ hx5) (by simp [f0, f1, f2, f3, f4, f44]) rfl rfl (by simp [f0, f1, f2, f3, f4, f44]) (.cons (.free (rfl)) (.nil)) (.inl ⟨rfl, by simp [free, freeL, freeL_encs fr97]⟩) (fun t' ht' => ?_)
    refine Stk.gen (fun t H n => t 0 = .ssl (encs c97 a0) a0.length false ∧ t 1 = .ssl (encs c97 a1) a1.length false ∧ t 2 = .sc (.int .i64 a2) ∧ t 3 = .sc (.int .i64 a3) ∧ t 4 = .ssl (encs c2 a4) a4.length false ∧ t 45 = .tup [.ssl (encs c97 x5.1) x5.1.length false, .sc (.int .i64 x5.2)]) ⟨by simp [ht', f0], by simp [ht', f1], by simp [ht', f2], by simp [ht', f3], by simp [ht', f4], by simp [ht']⟩ ?_
    clear f0 f1 f2 f3 f4 f44 ht' t'
    rintro t H n ⟨f0, f1, f2, f3, f4, f45⟩
    refine Stk.run 5 (fun t H n => t 0 = .ssl (encs c97 a0) a0.length false ∧ t 1 = .ssl (encs c97 a1) a1.length false ∧ t 2 = .sc (.int .i64 a2) ∧ t 3 = .sc (.int .i64 a3) ∧ t 4 = .ssl (encs c2 a4) a4.length false ∧ t 11 = .ssl (encs c97 x5.1) x5.1.length false ∧ t 12 = .sc (.int .i64 x5.2)) (fun J hJ => ?_) ?_
    · simp [-splice, f0, f1, f2, f3, f4, f45]
      exact hJ _ _ _ ⟨by simp [f0], by simp [f1], by simp [f2], by simp [f3], by simp [f4], by simp [-splice, f0, f1, f2, f3, f4, f45], by simp [-splice, f0, f1, f2, f3, f4, f45]⟩
    clear f0 f1 f2 f3 f4 f45
    rintro t H n ⟨f0, f1, f2, f3, f4, f11, f12⟩
    refine Stk.on ?_
    refine Stk.sq ?_
    refine Stk.rg ?_
    refine Stk.run 1 (fun t H n => t 0 = .ssl (encs c97 a0) a0.length false ∧ t 1 = .ssl (encs c97 a1) a1.length false ∧ t 3 = .sc (.int .i64 a3) ∧ t 4 = .ssl (encs c2 a4) a4.length false ∧ t 11 = .ssl (encs c97 x5.1) x5.1.length false ∧ t 12 = .sc (.int .i64 x5.2) ∧ t 49 = .sc (.int .i64 a2)) (fun J hJ => ?_) ?_
    · simp [-splice, f0, f1, f2, f3, f4, f11, f12]
      exact hJ _ _ _ ⟨by simp [f0], by simp [f1], by simp [f3], by simp [f4], by simp [f11], by simp [f12], by simp [-splice, f0, f1, f2, f3, f4, f11, f12]⟩
    clear f0 f1 f2 f3 f4 f11 f12
    rintro t H n ⟨f0, f1, f3, f4, f11, f12, f49⟩
    obtain ⟨x6, hx6, h⟩ := bnd h
    refine Stk.cv (g := 32) (args := [.sc (.int .i64 a2)]) (args' := [.sc (.int .i64 a2)]) (v := .tup [.ssl (encs c97 x6.1) x6.1.length false, .sc (.int .i64 x6.2)]) [] (ok_R13_Num F _ _ hx6) (by simp [f0, f1, f3, f4, f11, f12, f49]) rfl rfl (by simp [f0, f1, f3, f4, f11, f12, f49]) (.cons (.free (rfl)) (.nil)) (.inl ⟨rfl, by simp [free, freeL, freeL_encs fr97]⟩) (fun t' ht' => ?_)
    refine Stk.gen (fun t H n => t 0 = .ssl (encs c97 a0) a0.length false ∧ t 1 = .ssl (encs c97 a1) a1.length false ∧ t 3 = .sc (.int .i64 a3) ∧ t 4 = .ssl (encs c2 a4) a4.length false ∧ t 11 = .ssl (encs c97 x5.1) x5.1.length false ∧ t 12 = .sc (.int .i64 x5.2) ∧ t 50 = .tup [.ssl (encs c97 x6.1) x6.1.length false, .sc (.int .i64 x6.2)]) ⟨by simp [ht', f0], by simp [ht', f1], by simp [ht', f3], by simp [ht', f4], by simp [ht', f11], by simp [ht', f12], by simp [ht']⟩ ?_
    clear f0 f1 f3 f4 f11 f12 f49 ht' t'
    rintro t H n ⟨f0, f1, f3, f4, f11, f12, f50⟩
    refine Stk.run 5 (fun t H n => t 0 = .ssl (encs c97 a0) a0.length false ∧ t 1 = .ssl (encs c97 a1) a1.length false ∧ t 3 = .sc (.int .i64 a3) ∧ t 4 = .ssl (encs c2 a4) a4.length false ∧ t 11 = .ssl (encs c97 x5.1) x5.1.length false ∧ t 12 = .sc (.int .i64 x5.2) ∧ t 13 = .ssl (encs c97 x6.1) x6.1.length false ∧ t 14 = .sc (.int .i64 x6.2)) (fun J hJ => ?_) ?_
    · simp [-splice, f0, f1, f3, f4, f11, f12, f50]
      exact hJ _ _ _ ⟨by simp [f0], by simp [f1], by simp [f3], by simp [f4], by simp [f11], by simp [f12], by simp [-splice, f0, f1, f3, f4, f11, f12, f50], by simp [-splice, f0, f1, f3, f4, f11, f12, f50]⟩
    clear f0 f1 f3 f4 f11 f12 f50
    rintro t H n ⟨f0, f1, f3, f4, f11, f12, f13, f14⟩
    refine Stk.on ?_
    refine Stk.sq ?_
    refine Stk.rg ?_
    refine Stk.run 1 (fun t H n => t 0 = .ssl (encs c97 a0) a0.length false ∧ t 1 = .ssl (encs c97 a1) a1.length false ∧ t 3 = .sc (.int .i64 a3) ∧ t 4 = .ssl (encs c2 a4) a4.length false ∧ t 11 = .ssl (encs c97 x5.1) x5.1.length false ∧ t 12 = .sc (.int .i64 x5.2) ∧ t 13 = .ssl (encs c97 x6.1) x6.1.length false ∧ t 14 = .sc (.int .i64 x6.2) ∧ t 54 = .sc (.int .i64 a3)) (fun J hJ => ?_) ?_
    · simp [-splice, f0, f1, f3, f4, f11, f12, f13, f14]
      exact hJ _ _ _ ⟨by simp [f0], by simp [f1], by simp [f3], by simp [f4], by simp [f11], by simp [f12], by simp [f13], by simp [f14], by simp [-splice, f0, f1, f3, f4, f11, f12, f13, f14]⟩
    clear f0 f1 f3 f4 f11 f12 f13 f14
    rintro t H n ⟨f0, f1, f3, f4, f11, f12, f13, f14, f54⟩
    obtain ⟨x7, hx7, h⟩ := bnd h
    refine Stk.cv (g := 33) (args := [.sc (.int .i64 a3)]) (args' := [.sc (.int .i64 a3)]) (v := .tup [.ssl (encs c97 x7.1) x7.1.length false, .sc (.int .i64 x7.2)]) [] (ok_poly_Var F _ _ hx7) (by simp [f0, f1, f3, f4, f11, f12, f13, f14, f54]) rfl rfl (by simp [f0, f1, f3, f4, f11, f12, f13, f14, f54]) (.cons (.free (rfl)) (.nil)) (.inl ⟨rfl, by simp [free, freeL, freeL_encs fr97]⟩) (fun t' ht' => ?_)
    refine Stk.gen (fun t H n => t 0 = .ssl (encs c97 a0) a0.length false ∧ t 1 = .ssl (encs c97 a1) a1.length false ∧ t 3 = .sc (.int .i64 a3) ∧ t 4 = .ssl (encs c2 a4) a4.length false ∧ t 11 = .ssl (encs c97 x5.1) x5.1.length false ∧ t 12 = .sc (.int .i64 x5.2) ∧ t 13 = .ssl (encs c97 x6.1) x6.1.length false ∧ t 14 = .sc (.int .i64 x6.2) ∧ t 55 = .tup [.ssl (encs c97 x7.1) x7.1.length false, .sc (.int .i64 x7.2)]) ⟨by simp [ht', f0], by simp [ht', f1], by simp [ht', f3], by simp [ht', f4], by simp [ht', f11], by simp [ht', f12], by simp [ht', f13], by simp [ht', f14], by simp [ht']⟩ ?_
    clear f0 f1 f3 f4 f11 f12 f13 f14 f54 ht' t'
    rintro t H n ⟨f0, f1, f3, f4, f11, f12, f13, f14, f55⟩
    refine Stk.run 5 (fun t H n => t 0 = .ssl (encs c97 a0) a0.length false ∧ t 1 = .ssl (encs c97 a1) a1.length false ∧ t 3 = .sc (.int .i64 a3) ∧ t 4 = .ssl (encs c2 a4) a4.length false ∧ t 11 = .ssl (encs c97 x5.1) x5.1.length false ∧ t 12 = .sc (.int .i64 x5.2) ∧ t 13 = .ssl (encs c97 x6.1) x6.1.length false ∧ t 14 = .sc (.int .i64 x6.2) ∧ t 15 = .ssl (encs c97 x7.1) x7.1.length false ∧ t 16 = .sc (.int .i64 x7.2)) (fun J hJ => ?_) ?_
    · simp [-splice, f0, f1, f3, f4, f11, f12, f13, f14, f55]
      exact hJ _ _ _ ⟨by simp [f0], by simp [f1], by simp [f3], by simp [f4], by simp [f11], by simp [f12], by simp [f13], by simp [f14], by simp [-splice, f0, f1, f3, f4, f11, f12, f13, f14, f55], by simp [-splice, f0, f1, f3, f4, f11, f12, f13, f14, f55]⟩
    clear f0 f1 f3 f4 f11 f12 f13 f14 f55
    rintro t H n ⟨f0, f1, f3, f4, f11, f12, f13, f14, f15, f16⟩
    refine Stk.on ?_
    refine Stk.sq ?_
    refine Stk.rg ?_
    refine Stk.run 1 (fun t H n => t 0 = .ssl (encs c97 a0) a0.length false ∧ t 1 = .ssl (encs c97 a1) a1.length false ∧ t 3 = .sc (.int .i64 a3) ∧ t 4 = .ssl (encs c2 a4) a4.length false ∧ t 11 = .ssl (encs c97 x5.1) x5.1.length false ∧ t 12 = .sc (.int .i64 x5.2) ∧ t 13 = .ssl (encs c97 x6.1) x6.1.length false ∧ t 14 = .sc (.int .i64 x6.2) ∧ t 15 = .ssl (encs c97 x7.1) x7.1.length false ∧ t 16 = .sc (.int .i64 x7.2) ∧ t 59 = .sc (.int .i64 a3)) (fun J hJ => ?_) ?_
    · simp [-splice, f0, f1, f3, f4, f11, f12, f13, f14, f15, f16]
      exact hJ _ _ _ ⟨by simp [f0], by simp [f1], by simp [f3], by simp [f4], by simp [f11], by simp [f12], by simp [f13], by simp [f14], by simp [f15], by simp [f16], by simp [-splice, f0, f1, f3, f4, f11, f12, f13, f14, f15, f16]⟩
    clear f0 f1 f3 f4 f11 f12 f13 f14 f15 f16
    rintro t H n ⟨f0, f1, f3, f4, f11, f12, f13, f14, f15, f16, f59⟩
    obtain ⟨x8, hx8, h⟩ := bnd h
    refine Stk.cv (g := 34) (args := [.sc (.int .i64 a3)]) (args' := [.sc (.int .i64 a3)]) (v := .tup [.ssl (encs c97 x8.1) x8.1.length false, .sc (.int .i64 x8.2)]) [] (ok_R13_Var F _ _ hx8) (by simp [f0, f1, f3, f4, f11, f12, f13, f14, f15, f16, f59]) rfl rfl (by simp [f0, f1, f3, f4, f11, f12, f13, f14, f15, f16, f59]) (.cons (.free (rfl)) (.nil)) (.inl ⟨rfl, by simp [free, freeL, freeL_encs fr97]⟩) (fun t' ht' => ?_)
    refine Stk.gen (fun t H n => t 0 = .ssl (encs c97 a0) a0.length false ∧ t 1 = .ssl (encs c97 a1) a1.length false ∧ t 3 = .sc (.int .i64 a3) ∧ t 4 = .ssl (encs c2 a4) a4.length false ∧ t 11 = .ssl (encs c97 x5.1) x5.1.length false ∧ t 12 = .sc (.int .i64 x5.2) ∧ t 13 = .ssl (encs c97 x6.1) x6.1.length false ∧ t 14 = .sc (.int .i64 x6.2) ∧ t 15 = .ssl (encs c97 x7.1) x7.1.length false ∧ t 16 = .sc (.int .i64 x7.2) ∧ t 60 = .tup [.ssl (encs c97 x8.1) x8.1.length false, .sc (.int .i64 x8.2)]) ⟨by simp [ht', f0], by simp [ht', f1], by simp [ht', f3], by simp [ht', f4], by simp [ht', f11], by simp [ht', f12], by simp [ht', f13], by simp [ht', f14], by simp [ht', f15], by simp [ht', f16], by simp [ht']⟩ ?_
    clear f0 f1 f3 f4 f11 f12 f13 f14 f15 f16 f59 ht' t'
    rintro t H n ⟨f0, f1, f3, f4, f11, f12, f13, f14, f15, f16, f60⟩
    refine Stk.run 5 (fun t H n => t 0 = .ssl (encs c97 a0) a0.length false ∧ t 1 = .ssl (encs c97 a1) a1.length false ∧ t 3 = .sc (.int .i64 a3) ∧ t 4 = .ssl (encs c2 a4) a4.length false ∧ t 11 = .ssl (encs c97 x5.1) x5.1.length false ∧ t 12 = .sc (.int .i64 x5.2) ∧ t 13 = .ssl (encs c97 x6.1) x6.1.length false ∧ t 14 = .sc (.int .i64 x6.2) ∧ t 15 = .ssl (encs c97 x7.1) x7.1.length false ∧ t 16 = .sc (.int .i64 x7.2) ∧ t 17 = .ssl (encs c97 x8.1) x8.1.length false ∧ t 18 = .sc (.int .i64 x8.2)) (fun J hJ => ?_) ?_
    · simp [-splice, f0, f1, f3, f4, f11, f12, f13, f14, f15, f16, f60]
      exact hJ _ _ _ ⟨by simp [f0], by simp [f1], by simp [f3], by simp [f4], by simp [f11], by simp [f12], by simp [f13], by simp [f14], by simp [f15], by simp [f16], by simp [-splice, f0, f1, f3, f4, f11, f12, f13, f14, f15, f16, f60], by simp [-splice, f0, f1, f3, f4, f11, f12, f13, f14, f15, f16, f60]⟩
    clear f0 f1 f3 f4 f11 f12 f13 f14 f15 f16 f60
    rintro t H n ⟨f0, f1, f3, f4, f11, f12, f13, f14, f15, f16, f17, f18⟩
    refine Stk.on ?_
    refine Stk.sq ?_
    refine Stk.rg ?_
    refine Stk.run 2 (fun t H n => t 0 = .ssl (encs c97 a0) a0.length false ∧ t 1 = .ssl (encs c97 a1) a1.length false ∧ t 3 = .sc (.int .i64 a3) ∧ t 4 = .ssl (encs c2 a4) a4.length false ∧ t 11 = .ssl (encs c97 x5.1) x5.1.length false ∧ t 12 = .sc (.int .i64 x5.2) ∧ t 13 = .ssl (encs c97 x6.1) x6.1.length false ∧ t 14 = .sc (.int .i64 x6.2) ∧ t 15 = .ssl (encs c97 x7.1) x7.1.length false ∧ t 16 = .sc (.int .i64 x7.2) ∧ t 17 = .ssl (encs c97 x8.1) x8.1.length false ∧ t 18 = .sc (.int .i64 x8.2) ∧ t 64 = .ssl (encs c97 a1) a1.length false ∧ t 65 = .ssl (encs c2 a4) a4.length false) (fun J hJ => ?_) ?_
    · simp [-splice, f0, f1, f3, f4, f11, f12, f13, f14, f15, f16, f17, f18]
      exact hJ _ _ _ ⟨by simp [f0], by simp [f1], by simp [f3], by simp [f4], by simp [f11], by simp [f12], by simp [f13], by simp [f14], by simp [f15], by simp [f16], by simp [f17], by simp [f18], by simp [-splice, f0, f1, f3, f4, f11, f12, f13, f14, f15, f16, f17, f18], by simp [-splice, f0, f1, f3, f4, f11, f12, f13, f14, f15, f16, f17, f18]⟩
    clear f0 f1 f3 f4 f11 f12 f13 f14 f15 f16 f17 f18
    rintro t H n ⟨f0, f1, f3, f4, f11, f12, f13, f14, f15, f16, f17, f18, f64, f65⟩
    obtain ⟨x9, hx9, h⟩ := bnd h
    refine Stk.cv (g := 25) (args := [.ssl (encs c97 a1) a1.length false, .ssl (encs c2 a4) a4.length false]) (args' := [.ssl (encs c97 a1) a1.length false, .ssl (encs c2 a4) a4.length false]) (v := .tup [.sc (.int .i64 x9.1), .sc (.int .i64 x9.2)]) [] (ok_poly_At F _ _ _ hx9) (by simp [f0, f1, f3, f4, f11, f12, f13, f14, f15, f16, f17, f18, f64, f65]) rfl rfl (by simp [f0, f1, f3, f4, f11, f12, f13, f14, f15, f16, f17, f18, f64, f65]) (.cons (.free (freeL_encs fr97 _)) (.cons (.free (freeL_encs fr2 _)) (.nil))) (.inl ⟨rfl, by simp [free, freeL]⟩) (fun t' ht' => ?_)
    refine Stk.gen (fun t H n => t 0 = .ssl (encs c97 a0) a0.length false ∧ t 1 = .ssl (encs c97 a1) a1.length false ∧ t 3 = .sc (.int .i64 a3) ∧ t 4 = .ssl (encs c2 a4) a4.length false ∧ t 11 = .ssl (encs c97 x5.1) x5.1.length false ∧ t 12 = .sc (.int .i64 x5.2) ∧ t 13 = .ssl (encs c97 x6.1) x6.1.length false ∧ t 14 = .sc (.int .i64 x6.2) ∧ t 15 = .ssl (encs c97 x7.1) x7.1.length false ∧ t 16 = .sc (.int .i64 x7.2) ∧ t 17 = .ssl (encs c97 x8.1) x8.1.length false ∧ t 18 = .sc (.int .i64 x8.2) ∧ t 66 = .tup [.sc (.int .i64 x9.1), .sc (.int .i64 x9.2)]) ⟨by simp [ht', f0], by simp [ht', f1], by simp [ht', f3], by simp [ht', f4], by simp [ht', f11], by simp [ht', f12], by simp [ht', f13], by simp [ht', f14], by simp [ht', f15], by simp [ht', f16], by simp [ht', f17], by simp [ht', f18], by simp [ht']⟩ ?_
    clear f0 f1 f3 f4 f11 f12 f13 f14 f15 f16 f17 f18 f64 f65 ht' t'
    rintro t H n ⟨f0, f1, f3, f4, f11, f12, f13, f14, f15, f16, f17, f18, f66⟩
    refine Stk.run 5 (fun t H n => t 0 = .ssl (encs c97 a0) a0.length false ∧ t 1 = .ssl (encs c97 a1) a1.length false ∧ t 3 = .sc (.int .i64 a3) ∧ t 4 = .ssl (encs c2 a4) a4.length false ∧ t 11 = .ssl (encs c97 x5.1) x5.1.length false ∧ t 12 = .sc (.int .i64 x5.2) ∧ t 13 = .ssl (encs c97 x6.1) x6.1.length false ∧ t 14 = .sc (.int .i64 x6.2) ∧ t 15 = .ssl (encs c97 x7.1) x7.1.length false ∧ t 16 = .sc (.int .i64 x7.2) ∧ t 17 = .ssl (encs c97 x8.1) x8.1.length false ∧ t 18 = .sc (.int .i64 x8.2) ∧ t 19 = .sc (.int .i64 x9.1) ∧ t 20 = .sc (.int .i64 x9.2)) (fun J hJ => ?_) ?_
    · simp [-splice, f0, f1, f3, f4, f11, f12, f13, f14, f15, f16, f17, f18, f66]
      exact hJ _ _ _ ⟨by simp [f0], by simp [f1], by simp [f3], by simp [f4], by simp [f11], by simp [f12], by simp [f13], by simp [f14], by simp [f15], by simp [f16], by simp [f17], by simp [f18], by simp [-splice, f0, f1, f3, f4, f11, f12, f13, f14, f15, f16, f17, f18, f66], by simp [-splice, f0, f1, f3, f4, f11, f12, f13, f14, f15, f16, f17, f18, f66]⟩
    clear f0 f1 f3 f4 f11 f12 f13 f14 f15 f16 f17 f18 f66
    rintro t H n ⟨f0, f1, f3, f4, f11, f12, f13, f14, f15, f16, f17, f18, f19, f20⟩
    refine Stk.on ?_
    refine Stk.sq ?_
    refine Stk.rg ?_
    refine Stk.run 2 (fun t H n => t 0 = .ssl (encs c97 a0) a0.length false ∧ t 1 = .ssl (encs c97 a1) a1.length false ∧ t 3 = .sc (.int .i64 a3) ∧ t 11 = .ssl (encs c97 x5.1) x5.1.length false ∧ t 12 = .sc (.int .i64 x5.2) ∧ t 13 = .ssl (encs c97 x6.1) x6.1.length false ∧ t 14 = .sc (.int .i64 x6.2) ∧ t 15 = .ssl (encs c97 x7.1) x7.1.length false ∧ t 16 = .sc (.int .i64 x7.2) ∧ t 17 = .ssl (encs c97 x8.1) x8.1.length false ∧ t 18 = .sc (.int .i64 x8.2) ∧ t 19 = .sc (.int .i64 x9.1) ∧ t 20 = .sc (.int .i64 x9.2) ∧ t 70 = .ssl (encs c97 a1) a1.length false ∧ t 71 = .ssl (encs c2 a4) a4.length false) (fun J hJ => ?_) ?_
    · simp [-splice, f0, f1, f3, f4, f11, f12, f13, f14, f15, f16, f17, f18, f19, f20]
      exact hJ _ _ _ ⟨by simp [f0], by simp [f1], by simp [f3], by simp [f11], by simp [f12], by simp [f13], by simp [f14], by simp [f15], by simp [f16], by simp [f17], by simp [f18], by simp [f19], by simp [f20], by simp [-splice, f0, f1, f3, f4, f11, f12, f13, f14, f15, f16, f17, f18, f19, f20], by simp [-splice, f0, f1, f3, f4, f11, f12, f13, f14, f15, f16, f17, f18, f19, f20]⟩
    clear f0 f1 f3 f4 f11 f12 f13 f14 f15 f16 f17 f18 f19 f20
    rintro t H n ⟨f0, f1, f3, f11, f12, f13, f14, f15, f16, f17, f18, f19, f20, f70, f71⟩
    obtain ⟨x10, hx10, h⟩ := bnd h
    refine Stk.cv (g := 35) (args := [.ssl (encs c97 a1) a1.length false, .ssl (encs c2 a4) a4.length false]) (args' := [.ssl (encs c97 a1) a1.length false, .ssl (encs c2 a4) a4.length false]) (v := .tup [.sc (.int .i64 x10.1), .sc (.int .i64 x10.2)]) [] (ok_R13_At F _ _ _ hx10) (by simp [f0, f1, f3, f11, f12, f13, f14, f15, f16, f17, f18, f19, f20, f70, f71]) rfl rfl (by simp [f0, f1, f3, f11, f12, f13, f14, f15, f16, f17, f18, f19, f20, f70, f71]) (.cons (.free (freeL_encs fr97 _)) (.cons (.free (freeL_encs fr2 _)) (.nil))) (.inl ⟨rfl, by simp [free, freeL]⟩) (fun t' ht' => ?_)
    refine Stk.gen (fun t H n => t 0 = .ssl (encs c97 a0) a0.length false ∧ t 1 = .ssl (encs c97 a1) a1.length false ∧ t 3 = .sc (.int .i64 a3) ∧ t 11 = .ssl (encs c97 x5.1) x5.1.length false ∧ t 12 = .sc (.int .i64 x5.2) ∧ t 13 = .ssl (encs c97 x6.1) x6.1.length false ∧ t 14 = .sc (.int .i64 x6.2) ∧ t 15 = .ssl (encs c97 x7.1) x7.1.length false ∧ t 16 = .sc (.int .i64 x7.2) ∧ t 17 = .ssl (encs c97 x8.1) x8.1.length false ∧ t 18 = .sc (.int .i64 x8.2) ∧ t 19 = .sc (.int .i64 x9.1) ∧ t 20 = .sc (.int .i64 x9.2) ∧ t 72 = .tup [.sc (.int .i64 x10.1), .sc (.int .i64 x10.2)]) ⟨by simp [ht', f0], by simp [ht', f1], by simp [ht', f3], by simp [ht', f11], by simp [ht', f12], by simp [ht', f13], by simp [ht', f14], by simp [ht', f15], by simp [ht', f16], by simp [ht', f17], by simp [ht', f18], by simp [ht', f19], by simp [ht', f20], by simp [ht']⟩ ?_
    clear f0 f1 f3 f11 f12 f13 f14 f15 f16 f17 f18 f19 f20 f70 f71 ht' t'
    rintro t H n ⟨f0, f1, f3, f11, f12, f13, f14, f15, f16, f17, f18, f19, f20, f72⟩
    refine Stk.run 5 (fun t H n => t 0 = .ssl (encs c97 a0) a0.length false ∧ t 1 = .ssl (encs c97 a1) a1.length false ∧ t 3 = .sc (.int .i64 a3) ∧ t 11 = .ssl (encs c97 x5.1) x5.1.length false ∧ t 12 = .sc (.int .i64 x5.2) ∧ t 13 = .ssl (encs c97 x6.1) x6.1.length false ∧ t 14 = .sc (.int .i64 x6.2) ∧ t 15 = .ssl (encs c97 x7.1) x7.1.length false ∧ t 16 = .sc (.int .i64 x7.2) ∧ t 17 = .ssl (encs c97 x8.1) x8.1.length false ∧ t 18 = .sc (.int .i64 x8.2) ∧ t 19 = .sc (.int .i64 x9.1) ∧ t 20 = .sc (.int .i64 x9.2) ∧ t 21 = .sc (.int .i64 x10.1) ∧ t 22 = .sc (.int .i64 x10.2)) (fun J hJ => ?_) ?_
    · simp [-splice, f0, f1, f3, f11, f12, f13, f14, f15, f16, f17, f18, f19, f20, f72]
      exact hJ _ _ _ ⟨by simp [f0], by simp [f1], by simp [f3], by simp [f11], by simp [f12], by simp [f13], by simp [f14], by simp [f15], by simp [f16], by simp [f17], by simp [f18], by simp [f19], by simp [f20], by simp [-splice, f0, f1, f3, f11, f12, f13, f14, f15, f16, f17, f18, f19, f20, f72], by simp [-splice, f0, f1, f3, f11, f12, f13, f14, f15, f16, f17, f18, f19, f20, f72]⟩
    clear f0 f1 f3 f11 f12 f13 f14 f15 f16 f17 f18 f19 f20 f72
    rintro t H n ⟨f0, f1, f3, f11, f12, f13, f14, f15, f16, f17, f18, f19, f20, f21, f22⟩
    refine Stk.on ?_
    refine Stk.sq ?_
    refine Stk.rg ?_
    refine Stk.run 2 (fun t H n => t 0 = .ssl (encs c97 a0) a0.length false ∧ t 1 = .ssl (encs c97 a1) a1.length false ∧ t 3 = .sc (.int .i64 a3) ∧ t 11 = .ssl (encs c97 x5.1) x5.1.length false ∧ t 12 = .sc (.int .i64 x5.2) ∧ t 13 = .ssl (encs c97 x6.1) x6.1.length false ∧ t 14 = .sc (.int .i64 x6.2) ∧ t 15 = .ssl (encs c97 x7.1) x7.1.length false ∧ t 16 = .sc (.int .i64 x7.2) ∧ t 17 = .ssl (encs c97 x8.1) x8.1.length false ∧ t 18 = .sc (.int .i64 x8.2) ∧ t 19 = .sc (.int .i64 x9.1) ∧ t 20 = .sc (.int .i64 x9.2) ∧ t 21 = .sc (.int .i64 x10.1) ∧ t 22 = .sc (.int .i64 x10.2) ∧ t 76 = .ssl (encs c97 a1) a1.length false ∧ t 77 = .sc (.int .i64 a3)) (fun J hJ => ?_) ?_
    · simp [-splice, f0, f1, f3, f11, f12, f13, f14, f15, f16, f17, f18, f19, f20, f21, f22]
      exact hJ _ _ _ ⟨by simp [f0], by simp [f1], by simp [f3], by simp [f11], by simp [f12], by simp [f13], by simp [f14], by simp [f15], by simp [f16], by simp [f17], by simp [f18], by simp [f19], by simp [f20], by simp [f21], by simp [f22], by simp [-splice, f0, f1, f3, f11, f12, f13, f14, f15, f16, f17, f18, f19, f20, f21, f22], by simp [-splice, f0, f1, f3, f11, f12, f13, f14, f15, f16, f17, f18, f19, f20, f21, f22]⟩
    clear f0 f1 f3 f11 f12 f13 f14 f15 f16 f17 f18 f19 f20 f21 f22
    rintro t H n ⟨f0, f1, f3, f11, f12, f13, f14, f15, f16, f17, f18, f19, f20, f21, f22, f76, f77⟩
    obtain ⟨x11, hx11, h⟩ := bnd h
    refine Stk.cv (g := 36) (args := [.ssl (encs c97 a1) a1.length false, .sc (.int .i64 a3)]) (args' := [.ssl (encs c97 a1) a1.length false, .sc (.int .i64 a3)]) (v := .tup [.sc (.int .i64 x11.1), .ssl (encs c97 x11.2.1) x11.2.1.length false, .sc (.bool x11.2.2)]) [] (ok_poly_Split F _ _ _ hx11) (by simp [f0, f1, f3, f11, f12, f13, f14, f15, f16, f17, f18, f19, f20, f21, f22, f76, f77]) rfl rfl (by simp [f0, f1, f3, f11, f12, f13, f14, f15, f16, f17, f18, f19, f20, f21, f22, f76, f77]) (.cons (.free (freeL_encs fr97 _)) (.cons (.free (rfl)) (.nil))) (.inl ⟨rfl, by simp [free, freeL, freeL_encs fr97]⟩) (fun t' ht' => ?_)
    refine Stk.gen (fun t H n => t 0 = .ssl (encs c97 a0) a0.length false ∧ t 1 = .ssl (encs c97 a1) a1.length false ∧ t 3 = .sc (.int .i64 a3) ∧ t 11 = .ssl (encs c97 x5.1) x5.1.length false ∧ t 12 = .sc (.int .i64 x5.2) ∧ t 13 = .ssl (encs c97 x6.1) x6.1.length false ∧ t 14 = .sc (.int .i64 x6.2) ∧ t 15 = .ssl (encs c97 x7.1) x7.1.length false ∧ t 16 = .sc (.int .i64 x7.2) ∧ t 17 = .ssl (encs c97 x8.1) x8.1.length false ∧ t 18 = .sc (.int .i64 x8.2) ∧ t 19 = .sc (.int .i64 x9.1) ∧ t 20 = .sc (.int .i64 x9.2) ∧ t 21 = .sc (.int .i64 x10.1) ∧ t 22 = .sc (.int .i64 x10.2) ∧ t 78 = .tup [.sc (.int .i64 x11.1), .ssl (encs c97 x11.2.1) x11.2.1.length false, .sc (.bool x11.2.2)]) ⟨by simp [ht', f0], by simp [ht', f1], by simp [ht', f3], by simp [ht', f11], by simp [ht', f12], by simp [ht', f13], by simp [ht', f14], by simp [ht', f15], by simp [ht', f16], by simp [ht', f17], by simp [ht', f18], by simp [ht', f19], by simp [ht', f20], by simp [ht', f21], by simp [ht', f22], by simp [ht']⟩ ?_
    clear f0 f1 f3 f11 f12 f13 f14 f15 f16 f17 f18 f19 f20 f21 f22 f76 f77 ht' t'
    rintro t H n ⟨f0, f1, f3, f11, f12, f13, f14, f15, f16, f17, f18, f19, f20, f21, f22, f78⟩
    refine Stk.run 7 (fun t H n => t 0 = .ssl (encs c97 a0) a0.length false ∧ t 1 = .ssl (encs c97 a1) a1.length false ∧ t 3 = .sc (.int .i64 a3) ∧ t 11 = .ssl (encs c97 x5.1) x5.1.length false ∧ t 12 = .sc (.int .i64 x5.2) ∧ t 13 = .ssl (encs c97 x6.1) x6.1.length false ∧ t 14 = .sc (.int .i64 x6.2) ∧ t 15 = .ssl (encs c97 x7.1) x7.1.length false ∧ t 16 = .sc (.int .i64 x7.2) ∧ t 17 = .ssl (encs c97 x8.1) x8.1.length false ∧ t 18 = .sc (.int .i64 x8.2) ∧ t 19 = .sc (.int .i64 x9.1) ∧ t 20 = .sc (.int .i64 x9.2) ∧ t 21 = .sc (.int .i64 x10.1) ∧ t 22 = .sc (.int .i64 x10.2) ∧ t 23 = .sc (.int .i64 x11.1) ∧ t 24 = .ssl (encs c97 x11.2.1) x11.2.1.length false ∧ t 25 = .sc (.bool x11.2.2)) (fun J hJ => ?_) ?_
    · simp [-splice, f0, f1, f3, f11, f12, f13, f14, f15, f16, f17, f18, f19, f20, f21, f22, f78]
      exact hJ _ _ _ ⟨by simp [f0], by simp [f1], by simp [f3], by simp [f11], by simp [f12], by simp [f13], by simp [f14], by simp [f15], by simp [f16], by simp [f17], by simp [f18], by simp [f19], by simp [f20], by simp [f21], by simp [f22], by simp [-splice, f0, f1, f3, f11, f12, f13, f14, f15, f16, f17, f18, f19, f20, f21, f22, f78], by simp [-splice, f0, f1, f3, f11, f12, f13, f14, f15, f16, f17, f18, f19, f20, f21, f22, f78], by simp [-splice, f0, f1, f3, f11, f12, f13, f14, f15, f16, f17, f18, f19, f20, f21, f22, f78]⟩
    clear f0 f1 f3 f11 f12 f13 f14 f15 f16 f17 f18 f19 f20 f21 f22 f78
    rintro t H n ⟨f0, f1, f3, f11, f12, f13, f14, f15, f16, f17, f18, f19, f20, f21, f22, f23, f24, f25⟩
    refine Stk.on ?_
    refine Stk.sq ?_
    refine Stk.rg ?_
    refine Stk.run 2 (fun t H n => t 0 = .ssl (encs c97 a0) a0.length false ∧ t 1 = .ssl (encs c97 a1) a1.length false ∧ t 3 = .sc (.int .i64 a3) ∧ t 11 = .ssl (encs c97 x5.1) x5.1.length false ∧ t 12 = .sc (.int .i64 x5.2) ∧ t 13 = .ssl (encs c97 x6.1) x6.1.length false ∧ t 14 = .sc (.int .i64 x6.2) ∧ t 15 = .ssl (encs c97 x7.1) x7.1.length false ∧ t 16 = .sc (.int .i64 x7.2) ∧ t 17 = .ssl (encs c97 x8.1) x8.1.length false ∧ t 18 = .sc (.int .i64 x8.2) ∧ t 19 = .sc (.int .i64 x9.1) ∧ t 20 = .sc (.int .i64 x9.2) ∧ t 21 = .sc (.int .i64 x10.1) ∧ t 22 = .sc (.int .i64 x10.2) ∧ t 23 = .sc (.int .i64 x11.1) ∧ t 24 = .ssl (encs c97 x11.2.1) x11.2.1.length false ∧ t 25 = .sc (.bool x11.2.2) ∧ t 83 = .ssl (encs c97 a1) a1.length false ∧ t 84 = .sc (.int .i64 a3)) (fun J hJ => ?_) ?_
    · simp [-splice, f0, f1, f3, f11, f12, f13, f14, f15, f16, f17, f18, f19, f20, f21, f22, f23, f24, f25]
      exact hJ _ _ _ ⟨by simp [f0], by simp [f1], by simp [f3], by simp [f11], by simp [f12], by simp [f13], by simp [f14], by simp [f15], by simp [f16], by simp [f17], by simp [f18], by simp [f19], by simp [f20], by simp [f21], by simp [f22], by simp [f23], by simp [f24], by simp [f25], by simp [-splice, f0, f1, f3, f11, f12, f13, f14, f15, f16, f17, f18, f19, f20, f21, f22, f23, f24, f25], by simp [-splice, f0, f1, f3, f11, f12, f13, f14, f15, f16, f17, f18, f19, f20, f21, f22, f23, f24, f25]⟩
    clear f0 f1 f3 f11 f12 f13 f14 f15 f16 f17 f18 f19 f20 f21 f22 f23 f24 f25
    rintro t H n ⟨f0, f1, f3, f11, f12, f13, f14, f15, f16, f17, f18, f19, f20, f21, f22, f23, f24, f25, f83, f84⟩
    obtain ⟨x12, hx12, h⟩ := bnd h
    refine Stk.cv (g := 37) (args := [.ssl (encs c97 a1) a1.length false, .sc (.int .i64 a3)]) (args' := [.ssl (encs c97 a1) a1.length false, .sc (.int .i64 a3)]) (v := .tup [.sc (.int .i64 x12.1), .ssl (encs c97 x12.2.1) x12.2.1.length false, .sc (.bool x12.2.2)]) [] (ok_R13_Split F _ _ _ hx12) (by simp [f0, f1, f3, f11, f12, f13, f14, f15, f16, f17, f18, f19, f20, f21, f22, f23, f24, f25, f83, f84]) rfl rfl (by simp [f0, f1, f3, f11, f12, f13, f14, f15, f16, f17, f18, f19, f20, f21, f22, f23, f24, f25, f83, f84]) (.cons (.free (freeL_encs fr97 _)) (.cons (.free (rfl)) (.nil))) (.inl ⟨rfl, by simp [free, freeL, freeL_encs fr97]⟩) (fun t' ht' => ?_)
    refine Stk.gen (fun t H n => t 0 = .ssl (encs c97 a0) a0.length false ∧ t 1 = .ssl (encs c97 a1) a1.length false ∧ t 3 = .sc (.int .i64 a3) ∧ t 11 = .ssl (encs c97 x5.1) x5.1.length false ∧ t 12 = .sc (.int .i64 x5.2) ∧ t 13 = .ssl (encs c97 x6.1) x6.1.length false ∧ t 14 = .sc (.int .i64 x6.2) ∧ t 15 = .ssl (encs c97 x7.1) x7.1.length false ∧ t 16 = .sc (.int .i64 x7.2) ∧ t 17 = .ssl (encs c97 x8.1) x8.1.length false ∧ t 18 = .sc (.int .i64 x8.2) ∧ t 19 = .sc (.int .i64 x9.1) ∧ t 20 = .sc (.int .i64 x9.2) ∧ t 21 = .sc (.int .i64 x10.1) ∧ t 22 = .sc (.int .i64 x10.2) ∧ t 23 = .sc (.int .i64 x11.1) ∧ t 24 = .ssl (encs c97 x11.2.1) x11.2.1.length false ∧ t 25 = .sc (.bool x11.2.2) ∧ t 85 = .tup [.sc (.int .i64 x12.1), .ssl (encs c97 x12.2.1) x12.2.1.length false, .sc (.bool x12.2.2)]) ⟨by simp [ht', f0], by simp [ht', f1], by simp [ht', f3], by simp [ht', f11], by simp [ht', f12], by simp [ht', f13], by simp [ht', f14], by simp [ht', f15], by simp [ht', f16], by simp [ht', f17], by simp [ht', f18], by simp [ht', f19], by simp [ht', f20], by simp [ht', f21], by simp [ht', f22], by simp [ht', f23], by simp [ht', f24], by simp [ht', f25], by simp [ht']⟩ ?_
    clear f0 f1 f3 f11 f12 f13 f14 f15 f16 f17 f18 f19 f20 f21 f22 f23 f24 f25 f83 f84 ht' t'
    rintro t H n ⟨f0, f1, f3, f11, f12, f13, f14, f15, f16, f17, f18, f19, f20, f21, f22, f23, f24, f25, f85⟩
    refine Stk.run 7 (fun t H n => t 0 = .ssl (encs c97 a0) a0.length false ∧ t 1 = .ssl (encs c97 a1) a1.length false ∧ t 3 = .sc (.int .i64 a3) ∧ t 11 = .ssl (encs c97 x5.1) x5.1.length false ∧ t 12 = .sc (.int .i64 x5.2) ∧ t 13 = .ssl (encs c97 x6.1) x6.1.length false ∧ t 14 = .sc (.int .i64 x6.2) ∧ t 15 = .ssl (encs c97 x7.1) x7.1.length false ∧ t 16 = .sc (.int .i64 x7.2) ∧ t 17 = .ssl (encs c97 x8.1) x8.1.length false ∧ t 18 = .sc (.int .i64 x8.2) ∧ t 19 = .sc (.int .i64 x9.1) ∧ t 20 = .sc (.int .i64 x9.2) ∧ t 21 = .sc (.int .i64 x10.1) ∧ t 22 = .sc (.int .i64 x10.2) ∧ t 23 = .sc (.int .i64 x11.1) ∧ t 24 = .ssl (encs c97 x11.2.1) x11.2.1.length false ∧ t 25 = .sc (.bool x11.2.2) ∧ t 26 = .sc (.int .i64 x12.1) ∧ t 27 = .ssl (encs c97 x12.2.1) x12.2.1.length false ∧ t 28 = .sc (.bool x12.2.2)) (fun J hJ => ?_) ?_
    · simp [-splice, f0, f1, f3, f11, f12, f13, f14, f15, f16, f17, f18, f19, f20, f21, f22, f23, f24, f25, f85]
      exact hJ _ _ _ ⟨by simp [f0], by simp [f1], by simp [f3], by simp [f11], by simp [f12], by simp [f13], by simp [f14], by simp [f15], by simp [f16], by simp [f17], by simp [f18], by simp [f19], by simp [f20], by simp [f21], by simp [f22], by simp [f23], by simp [f24], by simp [f25], by simp [-splice, f0, f1, f3, f11, f12, f13, f14, f15, f16, f17, f18, f19, f20, f21, f22, f23, f24, f25, f85], by simp [-splice, f0, f1, f3, f11, f12, f13, f14, f15, f16, f17, f18, f19, f20, f21, f22, f23, f24, f25, f85], by simp [-splice, f0, f1, f3, f11, f12, f13, f14, f15, f16, f17, f18, f19, f20, f21, f22, f23, f24, f25, f85]⟩
    clear f0 f1 f3 f11 f12 f13 f14 f15 f16 f17 f18 f19 f20 f21 f22 f23 f24 f25 f85
    rintro t H n ⟨f0, f1, f3, f11, f12, f13, f14, f15, f16, f17, f18, f19, f20, f21, f22, f23, f24, f25, f26, f27, f28⟩
    refine Stk.on ?_
    refine Stk.sq ?_
    refine Stk.rg ?_
    refine Stk.run 1 (fun t H n => t 0 = .ssl (encs c97 a0) a0.length false ∧ t 1 = .ssl (encs c97 a1) a1.length false ∧ t 3 = .sc (.int .i64 a3) ∧ t 11 = .ssl (encs c97 x5.1) x5.1.length false ∧ t 12 = .sc (.int .i64 x5.2) ∧ t 13 = .ssl (encs c97 x6.1) x6.1.length false ∧ t 14 = .sc (.int .i64 x6.2) ∧ t 15 = .ssl (encs c97 x7.1) x7.1.length false ∧ t 16 = .sc (.int .i64 x7.2) ∧ t 17 = .ssl (encs c97 x8.1) x8.1.length false ∧ t 18 = .sc (.int .i64 x8.2) ∧ t 19 = .sc (.int .i64 x9.1) ∧ t 20 = .sc (.int .i64 x9.2) ∧ t 21 = .sc (.int .i64 x10.1) ∧ t 22 = .sc (.int .i64 x10.2) ∧ t 23 = .sc (.int .i64 x11.1) ∧ t 24 = .ssl (encs c97 x11.2.1) x11.2.1.length false ∧ t 25 = .sc (.bool x11.2.2) ∧ t 26 = .sc (.int .i64 x12.1) ∧ t 27 = .ssl (encs c97 x12.2.1) x12.2.1.length false ∧ t 28 = .sc (.bool x12.2.2) ∧ t 89 = .ssl (encs c97 a0) a0.length false) (fun J hJ => ?_) ?_
    · simp [-splice, f0, f1, f3, f11, f12, f13, f14, f15, f16, f17, f18, f19, f20, f21, f22, f23, f24, f25, f26, f27, f28]
      exact hJ _ _ _ ⟨by simp [f0], by simp [f1], by simp [f3], by simp [f11], by simp [f12], by simp [f13], by simp [f14], by simp [f15], by simp [f16], by simp [f17], by simp [f18], by simp [f19], by simp [f20], by simp [f21], by simp [f22], by simp [f23], by simp [f24], by simp [f25], by simp [f26], by simp [f27], by simp [f28], by simp [-splice, f0, f1, f3, f11, f12, f13, f14, f15, f16, f17, f18, f19, f20, f21, f22, f23, f24, f25, f26, f27, f28]⟩
    clear f0 f1 f3 f11 f12 f13 f14 f15 f16 f17 f18 f19 f20 f21 f22 f23 f24 f25 f26 f27 f28
    rintro t H n ⟨f0, f1, f3, f11, f12, f13, f14, f15, f16, f17, f18, f19, f20, f21, f22, f23, f24, f25, f26, f27, f28, f89⟩
    obtain ⟨x13, hx13, h⟩ := bnd h
    refine Stk.cv (g := 38) (args := [.ssl (encs c97 a0) a0.length false]) (args' := [.ssl (encs c97 a0) a0.length false]) (v := .sc (.bool x13)) [] (ok_poly_Fit F _ _ hx13) (by simp [f0, f1, f3, f11, f12, f13, f14, f15, f16, f17, f18, f19, f20, f21, f22, f23, f24, f25, f26, f27, f28, f89]) rfl rfl (by simp [f0, f1, f3, f11, f12, f13, f14, f15, f16, f17, f18, f19, f20, f21, f22, f23, f24, f25, f26, f27, f28, f89]) (.cons (.free (freeL_encs fr97 _)) (.nil)) (.inl ⟨rfl, rfl⟩) (fun t' ht' => ?_)
    refine Stk.gen (fun t H n => t 0 = .ssl (encs c97 a0) a0.length false ∧ t 1 = .ssl (encs c97 a1) a1.length false ∧ t 3 = .sc (.int .i64 a3) ∧ t 11 = .ssl (encs c97 x5.1) x5.1.length false ∧ t 12 = .sc (.int .i64 x5.2) ∧ t 13 = .ssl (encs c97 x6.1) x6.1.length false ∧ t 14 = .sc (.int .i64 x6.2) ∧ t 15 = .ssl (encs c97 x7.1) x7.1.length false ∧ t 16 = .sc (.int .i64 x7.2) ∧ t 17 = .ssl (encs c97 x8.1) x8.1.length false ∧ t 18 = .sc (.int .i64 x8.2) ∧ t 19 = .sc (.int .i64 x9.1) ∧ t 20 = .sc (.int .i64 x9.2) ∧ t 21 = .sc (.int .i64 x10.1) ∧ t 22 = .sc (.int .i64 x10.2) ∧ t 23 = .sc (.int .i64 x11.1) ∧ t 24 = .ssl (encs c97 x11.2.1) x11.2.1.length false ∧ t 25 = .sc (.bool x11.2.2) ∧ t 26 = .sc (.int .i64 x12.1) ∧ t 27 = .ssl (encs c97 x12.2.1) x12.2.1.length false ∧ t 28 = .sc (.bool x12.2.2) ∧ t 90 = .sc (.bool x13)) ⟨by simp [ht', f0], by simp [ht', f1], by simp [ht', f3], by simp [ht', f11], by simp [ht', f12], by simp [ht', f13], by simp [ht', f14], by simp [ht', f15], by simp [ht', f16], by simp [ht', f17], by simp [ht', f18], by simp [ht', f19], by simp [ht', f20], by simp [ht', f21], by simp [ht', f22], by simp [ht', f23], by simp [ht', f24], by simp [ht', f25], by simp [ht', f26], by simp [ht', f27], by simp [ht', f28], by simp [ht']⟩ ?_
    clear f0 f1 f3 f11 f12 f13 f14 f15 f16 f17 f18 f19 f20 f21 f22 f23 f24 f25 f26 f27 f28 f89 ht' t'
    rintro t H n ⟨f0, f1, f3, f11, f12, f13, f14, f15, f16, f17, f18, f19, f20, f21, f22, f23, f24, f25, f26, f27, f28, f90⟩
    refine Stk.run 1 (fun t H n => t 1 = .ssl (encs c97 a1) a1.length false ∧ t 3 = .sc (.int .i64 a3) ∧ t 11 = .ssl (encs c97 x5.1) x5.1.length false ∧ t 12 = .sc (.int .i64 x5.2) ∧ t 13 = .ssl (encs c97 x6.1) x6.1.length false ∧ t 14 = .sc (.int .i64 x6.2) ∧ t 15 = .ssl (encs c97 x7.1) x7.1.length false ∧ t 16 = .sc (.int .i64 x7.2) ∧ t 17 = .ssl (encs c97 x8.1) x8.1.length false ∧ t 18 = .sc (.int .i64 x8.2) ∧ t 19 = .sc (.int .i64 x9.1) ∧ t 20 = .sc (.int .i64 x9.2) ∧ t 21 = .sc (.int .i64 x10.1) ∧ t 22 = .sc (.int .i64 x10.2) ∧ t 23 = .sc (.int .i64 x11.1) ∧ t 24 = .ssl (encs c97 x11.2.1) x11.2.1.length false ∧ t 25 = .sc (.bool x11.2.2) ∧ t 26 = .sc (.int .i64 x12.1) ∧ t 27 = .ssl (encs c97 x12.2.1) x12.2.1.length false ∧ t 28 = .sc (.bool x12.2.2) ∧ t 90 = .sc (.bool x13) ∧ t 91 = .ssl (encs c97 a0) a0.length false) (fun J hJ => ?_) ?_
    · simp [-splice, f0, f1, f3, f11, f12, f13, f14, f15, f16, f17, f18, f19, f20, f21, f22, f23, f24, f25, f26, f27, f28, f90]
      exact hJ _ _ _ ⟨by simp [f1], by simp [f3], by simp [f11], by simp [f12], by simp [f13], by simp [f14], by simp [f15], by simp [f16], by simp [f17], by simp [f18], by simp [f19], by simp [f20], by simp [f21], by simp [f22], by simp [f23], by simp [f24], by simp [f25], by simp [f26], by simp [f27], by simp [f28], by simp [f90], by simp [-splice, f0, f1, f3, f11, f12, f13, f14, f15, f16, f17, f18, f19, f20, f21, f22, f23, f24, f25, f26, f27, f28, f90]⟩
    clear f0 f1 f3 f11 f12 f13 f14 f15 f16 f17 f18 f19 f20 f21 f22 f23 f24 f25 f26 f27 f28 f90
    rintro t H n ⟨f1, f3, f11, f12, f13, f14, f15, f16, f17, f18, f19, f20, f21, f22, f23, f24, f25, f26, f27, f28, f90, f91⟩
    obtain ⟨x14, hx14, h⟩ := bnd h
    refine Stk.cv (g := 23) (args := [.ssl (encs c97 a0) a0.length false]) (args' := [.ssl (encs c97 a0) a0.length false]) (v := .sc (.bool x14)) [] (ok_R13_Fit F _ _ hx14) (by simp [f1, f3, f11, f12, f13, f14, f15, f16, f17, f18, f19, f20, f21, f22, f23, f24, f25, f26, f27, f28, f90, f91]) rfl rfl (by simp [f1, f3, f11, f12, f13, f14, f15, f16, f17, f18, f19, f20, f21, f22, f23, f24, f25, f26, f27, f28, f90, f91]) (.cons (.free (freeL_encs fr97 _)) (.nil)) (.inl ⟨rfl, rfl⟩) (fun t' ht' => ?_)
    refine Stk.gen (fun t H n => t 1 = .ssl (encs c97 a1) a1.length false ∧ t 3 = .sc (.int .i64 a3) ∧ t 11 = .ssl (encs c97 x5.1) x5.1.length false ∧ t 12 = .sc (.int .i64 x5.2) ∧ t 13 = .ssl (encs c97 x6.1) x6.1.length false ∧ t 14 = .sc (.int .i64 x6.2) ∧ t 15 = .ssl (encs c97 x7.1) x7.1.length false ∧ t 16 = .sc (.int .i64 x7.2) ∧ t 17 = .ssl (encs c97 x8.1) x8.1.length false ∧ t 18 = .sc (.int .i64 x8.2) ∧ t 19 = .sc (.int .i64 x9.1) ∧ t 20 = .sc (.int .i64 x9.2) ∧ t 21 = .sc (.int .i64 x10.1) ∧ t 22 = .sc (.int .i64 x10.2) ∧ t 23 = .sc (.int .i64 x11.1) ∧ t 24 = .ssl (encs c97 x11.2.1) x11.2.1.length false ∧ t 25 = .sc (.bool x11.2.2) ∧ t 26 = .sc (.int .i64 x12.1) ∧ t 27 = .ssl (encs c97 x12.2.1) x12.2.1.length false ∧ t 28 = .sc (.bool x12.2.2) ∧ t 90 = .sc (.bool x13) ∧ t 92 = .sc (.bool x14)) ⟨by simp [ht', f1], by simp [ht', f3], by simp [ht', f11], by simp [ht', f12], by simp [ht', f13], by simp [ht', f14], by simp [ht', f15], by simp [ht', f16], by simp [ht', f17], by simp [ht', f18], by simp [ht', f19], by simp [ht', f20], by simp [ht', f21], by simp [ht', f22], by simp [ht', f23], by simp [ht', f24], by simp [ht', f25], by simp [ht', f26], by simp [ht', f27], by simp [ht', f28], by simp [ht', f90], by simp [ht']⟩ ?_
    clear f1 f3 f11 f12 f13 f14 f15 f16 f17 f18 f19 f20 f21 f22 f23 f24 f25 f26 f27 f28 f90 f91 ht' t'
    rintro t H n ⟨f1, f3, f11, f12, f13, f14, f15, f16, f17, f18, f19, f20, f21, f22, f23, f24, f25, f26, f27, f28, f90, f92⟩
    refine Stk.run 2 (fun t H n => t 1 = .ssl (encs c97 a1) a1.length false ∧ t 3 = .sc (.int .i64 a3) ∧ t 11 = .ssl (encs c97 x5.1) x5.1.length false ∧ t 12 = .sc (.int .i64 x5.2) ∧ t 13 = .ssl (encs c97 x6.1) x6.1.length false ∧ t 14 = .sc (.int .i64 x6.2) ∧ t 15 = .ssl (encs c97 x7.1) x7.1.length false ∧ t 16 = .sc (.int .i64 x7.2) ∧ t 17 = .ssl (encs c97 x8.1) x8.1.length false ∧ t 18 = .sc (.int .i64 x8.2) ∧ t 19 = .sc (.int .i64 x9.1) ∧ t 20 = .sc (.int .i64 x9.2) ∧ t 21 = .sc (.int .i64 x10.1) ∧ t 22 = .sc (.int .i64 x10.2) ∧ t 23 = .sc (.int .i64 x11.1) ∧ t 24 = .ssl (encs c97 x11.2.1) x11.2.1.length false ∧ t 25 = .sc (.bool x11.2.2) ∧ t 26 = .sc (.int .i64 x12.1) ∧ t 27 = .ssl (encs c97 x12.2.1) x12.2.1.length false ∧ t 28 = .sc (.bool x12.2.2) ∧ t 94 = .sc (.bool (x13 == x14))) (fun J hJ => ?_) ?_
    · simp [-splice, f1, f3, f11, f12, f13, f14, f15, f16, f17, f18, f19, f20, f21, f22, f23, f24, f25, f26, f27, f28, f90, f92, eqM4]
      exact hJ _ _ _ ⟨by simp [f1], by simp [f3], by simp [f11], by simp [f12], by simp [f13], by simp [f14], by simp [f15], by simp [f16], by simp [f17], by simp [f18], by simp [f19], by simp [f20], by simp [f21], by simp [f22], by simp [f23], by simp [f24], by simp [f25], by simp [f26], by simp [f27], by simp [f28], by simp [-splice, f1, f3, f11, f12, f13, f14, f15, f16, f17, f18, f19, f20, f21, f22, f23, f24, f25, f26, f27, f28, f90, f92, eqM4]⟩
    clear f1 f3 f11 f12 f13 f14 f15 f16 f17 f18 f19 f20 f21 f22 f23 f24 f25 f26 f27 f28 f90 f92
    rintro t H n ⟨f1, f3, f11, f12, f13, f14, f15, f16, f17, f18, f19, f20, f21, f22, f23, f24, f25, f26, f27, f28, f94⟩
    obtain ⟨K3, hK3, h⟩ := jnd h
    refine Stk.jo 4 (fun t H n => ∃ v15 : Bool, K3 v15 = some r ∧ t 1 = .ssl (encs c97 a1) a1.length false ∧ t 3 = .sc (.int .i64 a3) ∧ t 12 = .sc (.int .i64 x5.2) ∧ t 14 = .sc (.int .i64 x6.2) ∧ t 15 = .ssl (encs c97 x7.1) x7.1.length false ∧ t 16 = .sc (.int .i64 x7.2) ∧ t 17 = .ssl (encs c97 x8.1) x8.1.length false ∧ t 18 = .sc (.int .i64 x8.2) ∧ t 19 = .sc (.int .i64 x9.1) ∧ t 20 = .sc (.int .i64 x9.2) ∧ t 21 = .sc (.int .i64 x10.1) ∧ t 22 = .sc (.int .i64 x10.2) ∧ t 23 = .sc (.int .i64 x11.1) ∧ t 24 = .ssl (encs c97 x11.2.1) x11.2.1.length false ∧ t 25 = .sc (.bool x11.2.2) ∧ t 26 = .sc (.int .i64 x12.1) ∧ t 27 = .ssl (encs c97 x12.2.1) x12.2.1.length false ∧ t 28 = .sc (.bool x12.2.2) ∧ t 98 = .sc (.bool v15)) (fun J3 hJ3 => ?_) ?_
    · rcases Bool.eq_false_or_eq_true (x13 == x14) with hb3 | hb3
      · rw [hb3] at f94
        replace h := cT hb3 h
        refine Stk.run 2 (fun t H n => t 1 = .ssl (encs c97 a1) a1.length false ∧ t 3 = .sc (.int .i64 a3) ∧ t 12 = .sc (.int .i64 x5.2) ∧ t 14 = .sc (.int .i64 x6.2) ∧ t 15 = .ssl (encs c97 x7.1) x7.1.length false ∧ t 16 = .sc (.int .i64 x7.2) ∧ t 17 = .ssl (encs c97 x8.1) x8.1.length false ∧ t 18 = .sc (.int .i64 x8.2) ∧ t 19 = .sc (.int .i64 x9.1) ∧ t 20 = .sc (.int .i64 x9.2) ∧ t 21 = .sc (.int .i64 x10.1) ∧ t 22 = .sc (.int .i64 x10.2) ∧ t 23 = .sc (.int .i64 x11.1) ∧ t 24 = .ssl (encs c97 x11.2.1) x11.2.1.length false ∧ t 25 = .sc (.bool x11.2.2) ∧ t 26 = .sc (.int .i64 x12.1) ∧ t 27 = .ssl (encs c97 x12.2.1) x12.2.1.length false ∧ t 28 = .sc (.bool x12.2.2) ∧ t 94 = .sc (.bool true) ∧ t 95 = .ssl (encs c97 x5.1) x5.1.length false ∧ t 96 = .ssl (encs c97 x6.1) x6.1.length false) (fun J hJ => ?_) ?_
        · simp [-splice, f1, f3, f11, f12, f13, f14, f15, f16, f17, f18, f19, f20, f21, f22, f23, f24, f25, f26, f27, f28, f94]
          exact hJ _ _ _ ⟨by simp [f1], by simp [f3], by simp [f12], by simp [f14], by simp [f15], by simp [f16], by simp [f17], by simp [f18], by simp [f19], by simp [f20], by simp [f21], by simp [f22], by simp [f23], by simp [f24], by simp [f25], by simp [f26], by simp [f27], by simp [f28], by simp [f94], by simp [-splice, f1, f3, f11, f12, f13, f14, f15, f16, f17, f18, f19, f20, f21, f22, f23, f24, f25, f26, f27, f28, f94], by simp [-splice, f1, f3, f11, f12, f13, f14, f15, f16, f17, f18, f19, f20, f21, f22, f23, f24, f25, f26, f27, f28, f94]⟩
        clear f1 f3 f11 f12 f13 f14 f15 f16 f17 f18 f19 f20 f21 f22 f23 f24 f25 f26 f27 f28 f94
        rintro t H n ⟨f1, f3, f12, f14, f15, f16, f17, f18, f19, f20, f21, f22, f23, f24, f25, f26, f27, f28, f94, f95, f96⟩
        obtain ⟨x16, hx16, h⟩ := bnd h
        refine Stk.cv (g := 22) (args := [.ssl (encs c97 x5.1) x5.1.length false, .ssl (encs c97 x6.1) x6.1.length false]) (args' := [.ssl (encs c97 x5.1) x5.1.length false, .ssl (encs c97 x6.1) x6.1.length false]) (v := .sc (.bool x16)) [] (ok_R13_Same F _ _ _ hx16) (by simp [f1, f3, f12, f14, f15, f16, f17, f18, f19, f20, f21, f22, f23, f24, f25, f26, f27, f28, f94, f95, f96]) rfl rfl (by simp [f1, f3, f12, f14, f15, f16, f17, f18, f19, f20, f21, f22, f23, f24, f25, f26, f27, f28, f94, f95, f96]) (.cons (.free (freeL_encs fr97 _)) (.cons (.free (freeL_encs fr97 _)) (.nil))) (.inl ⟨rfl, rfl⟩) (fun t' ht' => ?_)
        refine Stk.gen (fun t H n => t 1 = .ssl (encs c97 a1) a1.length false ∧ t 3 = .sc (.int .i64 a3) ∧ t 12 = .sc (.int .i64 x5.2) ∧ t 14 = .sc (.int .i64 x6.2) ∧ t 15 = .ssl (encs c97 x7.1) x7.1.length false ∧ t 16 = .sc (.int .i64 x7.2) ∧ t 17 = .ssl (encs c97 x8.1) x8.1.length false ∧ t 18 = .sc (.int .i64 x8.2) ∧ t 19 = .sc (.int .i64 x9.1) ∧ t 20 = .sc (.int .i64 x9.2) ∧ t 21 = .sc (.int .i64 x10.1) ∧ t 22 = .sc (.int .i64 x10.2) ∧ t 23 = .sc (.int .i64 x11.1) ∧ t 24 = .ssl (encs c97 x11.2.1) x11.2.1.length false ∧ t 25 = .sc (.bool x11.2.2) ∧ t 26 = .sc (.int .i64 x12.1) ∧ t 27 = .ssl (encs c97 x12.2.1) x12.2.1.length false ∧ t 28 = .sc (.bool x12.2.2) ∧ t 94 = .sc (.bool true) ∧ t 97 = .sc (.bool x16)) ⟨by simp [ht', f1], by simp [ht', f3], by simp [ht', f12], by simp [ht', f14], by simp [ht', f15], by simp [ht', f16], by simp [ht', f17], by simp [ht', f18], by simp [ht', f19], by simp [ht', f20], by simp [ht', f21], by simp [ht', f22], by simp [ht', f23], by simp [ht', f24], by simp [ht', f25], by simp [ht', f26], by simp [ht', f27], by simp [ht', f28], by simp [ht', f94], by simp [ht']⟩ ?_
        clear f1 f3 f12 f14 f15 f16 f17 f18 f19 f20 f21 f22 f23 f24 f25 f26 f27 f28 f94 f95 f96 ht' t'
        rintro t H n ⟨f1, f3, f12, f14, f15, f16, f17, f18, f19, f20, f21, f22, f23, f24, f25, f26, f27, f28, f94, f97⟩
        refine Stk.run 1 (fun t H n => t 1 = .ssl (encs c97 a1) a1.length false ∧ t 3 = .sc (.int .i64 a3) ∧ t 12 = .sc (.int .i64 x5.2) ∧ t 14 = .sc (.int .i64 x6.2) ∧ t 15 = .ssl (encs c97 x7.1) x7.1.length false ∧ t 16 = .sc (.int .i64 x7.2) ∧ t 17 = .ssl (encs c97 x8.1) x8.1.length false ∧ t 18 = .sc (.int .i64 x8.2) ∧ t 19 = .sc (.int .i64 x9.1) ∧ t 20 = .sc (.int .i64 x9.2) ∧ t 21 = .sc (.int .i64 x10.1) ∧ t 22 = .sc (.int .i64 x10.2) ∧ t 23 = .sc (.int .i64 x11.1) ∧ t 24 = .ssl (encs c97 x11.2.1) x11.2.1.length false ∧ t 25 = .sc (.bool x11.2.2) ∧ t 26 = .sc (.int .i64 x12.1) ∧ t 27 = .ssl (encs c97 x12.2.1) x12.2.1.length false ∧ t 28 = .sc (.bool x12.2.2) ∧ t 98 = .sc (.bool x16)) (fun J hJ => ?_) ?_
        · simp [-splice, f1, f3, f12, f14, f15, f16, f17, f18, f19, f20, f21, f22, f23, f24, f25, f26, f27, f28, f94, f97]
          exact hJ _ _ _ ⟨by simp [f1], by simp [f3], by simp [f12], by simp [f14], by simp [f15], by simp [f16], by simp [f17], by simp [f18], by simp [f19], by simp [f20], by simp [f21], by simp [f22], by simp [f23], by simp [f24], by simp [f25], by simp [f26], by simp [f27], by simp [f28], by simp [-splice, f1, f3, f12, f14, f15, f16, f17, f18, f19, f20, f21, f22, f23, f24, f25, f26, f27, f28, f94, f97]⟩
        clear f1 f3 f12 f14 f15 f16 f17 f18 f19 f20 f21 f22 f23 f24 f25 f26 f27 f28 f94 f97
        rintro t H n ⟨f1, f3, f12, f14, f15, f16, f17, f18, f19, f20, f21, f22, f23, f24, f25, f26, f27, f28, f98⟩
        refine Stk.on ?_
        exact Stk.ln 0 (by decide) (hJ3 _ _ _ ⟨x16, h, f1, f3, f12, f14, f15, f16, f17, f18, f19, f20, f21, f22, f23, f24, f25, f26, f27, f28, f98⟩)
      · rw [hb3] at f94
        replace h := cF hb3 h
        refine Stk.run 4 (fun t H n => t 1 = .ssl (encs c97 a1) a1.length false ∧ t 3 = .sc (.int .i64 a3) ∧ t 12 = .sc (.int .i64 x5.2) ∧ t 14 = .sc (.int .i64 x6.2) ∧ t 15 = .ssl (encs c97 x7.1) x7.1.length false ∧ t 16 = .sc (.int .i64 x7.2) ∧ t 17 = .ssl (encs c97 x8.1) x8.1.length false ∧ t 18 = .sc (.int .i64 x8.2) ∧ t 19 = .sc (.int .i64 x9.1) ∧ t 20 = .sc (.int .i64 x9.2) ∧ t 21 = .sc (.int .i64 x10.1) ∧ t 22 = .sc (.int .i64 x10.2) ∧ t 23 = .sc (.int .i64 x11.1) ∧ t 24 = .ssl (encs c97 x11.2.1) x11.2.1.length false ∧ t 25 = .sc (.bool x11.2.2) ∧ t 26 = .sc (.int .i64 x12.1) ∧ t 27 = .ssl (encs c97 x12.2.1) x12.2.1.length false ∧ t 28 = .sc (.bool x12.2.2) ∧ t 98 = .sc (.bool false)) (fun J hJ => ?_) ?_
        · simp [-splice, f1, f3, f11, f12, f13, f14, f15, f16, f17, f18, f19, f20, f21, f22, f23, f24, f25, f26, f27, f28, f94]
          exact hJ _ _ _ ⟨by simp [f1], by simp [f3], by simp [f12], by simp [f14], by simp [f15], by simp [f16], by simp [f17], by simp [f18], by simp [f19], by simp [f20], by simp [f21], by simp [f22], by simp [f23], by simp [f24], by simp [f25], by simp [f26], by simp [f27], by simp [f28], by simp [-splice, f1, f3, f11, f12, f13, f14, f15, f16, f17, f18, f19, f20, f21, f22, f23, f24, f25, f26, f27, f28, f94]⟩
        clear f1 f3 f11 f12 f13 f14 f15 f16 f17 f18 f19 f20 f21 f22 f23 f24 f25 f26 f27 f28 f94
        rintro t H n ⟨f1, f3, f12, f14, f15, f16, f17, f18, f19, f20, f21, f22, f23, f24, f25, f26, f27, f28, f98⟩
        refine Stk.on ?_
        exact Stk.ln 0 (by decide) (hJ3 _ _ _ ⟨false, h, f1, f3, f12, f14, f15, f16, f17, f18, f19, f20, f21, f22, f23, f24, f25, f26, f27, f28, f98⟩)
    clear h f1 f3 f11 f12 f13 f14 f15 f16 f17 f18 f19 f20 f21 f22 f23 f24 f25 f26 f27 f28 f94
    rintro t H n ⟨v15, h, f1, f3, f12, f14, f15, f16, f17, f18, f19, f20, f21, f22, f23, f24, f25, f26, f27, f28, f98⟩
    subst hK3
    refine Stk.run 1 (fun t H n => t 1 = .ssl (encs c97 a1) a1.length false ∧ t 3 = .sc (.int .i64 a3) ∧ t 12 = .sc (.int .i64 x5.2) ∧ t 14 = .sc (.int .i64 x6.2) ∧ t 15 = .ssl (encs c97 x7.1) x7.1.length false ∧ t 16 = .sc (.int .i64 x7.2) ∧ t 17 = .ssl (encs c97 x8.1) x8.1.length false ∧ t 18 = .sc (.int .i64 x8.2) ∧ t 19 = .sc (.int .i64 x9.1) ∧ t 20 = .sc (.int .i64 x9.2) ∧ t 21 = .sc (.int .i64 x10.1) ∧ t 22 = .sc (.int .i64 x10.2) ∧ t 23 = .sc (.int .i64 x11.1) ∧ t 24 = .ssl (encs c97 x11.2.1) x11.2.1.length false ∧ t 25 = .sc (.bool x11.2.2) ∧ t 26 = .sc (.int .i64 x12.1) ∧ t 27 = .ssl (encs c97 x12.2.1) x12.2.1.length false ∧ t 28 = .sc (.bool x12.2.2) ∧ t 99 = .sc (.bool v15)) (fun J hJ => ?_) ?_
    · simp [-splice, f1, f3, f12, f14, f15, f16, f17, f18, f19, f20, f21, f22, f23, f24, f25, f26, f27, f28, f98]
      exact hJ _ _ _ ⟨by simp [f1], by simp [f3], by simp [f12], by simp [f14], by simp [f15], by simp [f16], by simp [f17], by simp [f18], by simp [f19], by simp [f20], by simp [f21], by simp [f22], by simp [f23], by simp [f24], by simp [f25], by simp [f26], by simp [f27], by simp [f28], by simp [-splice, f1, f3, f12, f14, f15, f16, f17, f18, f19, f20, f21, f22, f23, f24, f25, f26, f27, f28, f98]⟩
    clear f1 f3 f12 f14 f15 f16 f17 f18 f19 f20 f21 f22 f23 f24 f25 f26 f27 f28 f98
    rintro t H n ⟨f1, f3, f12, f14, f15, f16, f17, f18, f19, f20, f21, f22, f23, f24, f25, f26, f27, f28, f99⟩
    refine Stk.jo 4 (fun t H n => t 1 = .ssl (encs c97 a1) a1.length false ∧ t 3 = .sc (.int .i64 a3) ∧ t 15 = .ssl (encs c97 x7.1) x7.1.length false ∧ t 16 = .sc (.int .i64 x7.2) ∧ t 17 = .ssl (encs c97 x8.1) x8.1.length false ∧ t 18 = .sc (.int .i64 x8.2) ∧ t 19 = .sc (.int .i64 x9.1) ∧ t 20 = .sc (.int .i64 x9.2) ∧ t 21 = .sc (.int .i64 x10.1) ∧ t 22 = .sc (.int .i64 x10.2) ∧ t 23 = .sc (.int .i64 x11.1) ∧ t 24 = .ssl (encs c97 x11.2.1) x11.2.1.length false ∧ t 25 = .sc (.bool x11.2.2) ∧ t 26 = .sc (.int .i64 x12.1) ∧ t 27 = .ssl (encs c97 x12.2.1) x12.2.1.length false ∧ t 28 = .sc (.bool x12.2.2) ∧ t 103 = .sc (.bool (v15 && (x5.2 == x6.2)))) (fun J4 hJ4 => ?_) ?_
    · rcases Bool.eq_false_or_eq_true v15 with hb4 | hb4
      · rw [hb4] at f99
        refine Stk.run 4 (fun t H n => t 1 = .ssl (encs c97 a1) a1.length false ∧ t 3 = .sc (.int .i64 a3) ∧ t 15 = .ssl (encs c97 x7.1) x7.1.length false ∧ t 16 = .sc (.int .i64 x7.2) ∧ t 17 = .ssl (encs c97 x8.1) x8.1.length false ∧ t 18 = .sc (.int .i64 x8.2) ∧ t 19 = .sc (.int .i64 x9.1) ∧ t 20 = .sc (.int .i64 x9.2) ∧ t 21 = .sc (.int .i64 x10.1) ∧ t 22 = .sc (.int .i64 x10.2) ∧ t 23 = .sc (.int .i64 x11.1) ∧ t 24 = .ssl (encs c97 x11.2.1) x11.2.1.length false ∧ t 25 = .sc (.bool x11.2.2) ∧ t 26 = .sc (.int .i64 x12.1) ∧ t 27 = .ssl (encs c97 x12.2.1) x12.2.1.length false ∧ t 28 = .sc (.bool x12.2.2) ∧ t 103 = .sc (.bool (x5.2 == x6.2))) (fun J hJ => ?_) ?_
        · simp [-splice, f1, f3, f12, f14, f15, f16, f17, f18, f19, f20, f21, f22, f23, f24, f25, f26, f27, f28, f99]
          exact hJ _ _ _ ⟨by simp [f1], by simp [f3], by simp [f15], by simp [f16], by simp [f17], by simp [f18], by simp [f19], by simp [f20], by simp [f21], by simp [f22], by simp [f23], by simp [f24], by simp [f25], by simp [f26], by simp [f27], by simp [f28], by simp [-splice, f1, f3, f12, f14, f15, f16, f17, f18, f19, f20, f21, f22, f23, f24, f25, f26, f27, f28, f99]⟩
        clear f1 f3 f12 f14 f15 f16 f17 f18 f19 f20 f21 f22 f23 f24 f25 f26 f27 f28 f99
        rintro t H n ⟨f1, f3, f15, f16, f17, f18, f19, f20, f21, f22, f23, f24, f25, f26, f27, f28, f103⟩
        refine Stk.on ?_
        exact Stk.ln 0 (by decide) (hJ4 _ _ _ ⟨f1, f3, f15, f16, f17, f18, f19, f20, f21, f22, f23, f24, f25, f26, f27, f28, f103.trans (congrArg (fun q => AV.sc (.bool q)) (by rw [hb4]; rfl))⟩)
      · rw [hb4] at f99
        refine Stk.run 4 (fun t H n => t 1 = .ssl (encs c97 a1) a1.length false ∧ t 3 = .sc (.int .i64 a3) ∧ t 15 = .ssl (encs c97 x7.1) x7.1.length false ∧ t 16 = .sc (.int .i64 x7.2) ∧ t 17 = .ssl (encs c97 x8.1) x8.1.length false ∧ t 18 = .sc (.int .i64 x8.2) ∧ t 19 = .sc (.int .i64 x9.1) ∧ t 20 = .sc (.int .i64 x9.2) ∧ t 21 = .sc (.int .i64 x10.1) ∧ t 22 = .sc (.int .i64 x10.2) ∧ t 23 = .sc (.int .i64 x11.1) ∧ t 24 = .ssl (encs c97 x11.2.1) x11.2.1.length false ∧ t 25 = .sc (.bool x11.2.2) ∧ t 26 = .sc (.int .i64 x12.1) ∧ t 27 = .ssl (encs c97 x12.2.1) x12.2.1.length false ∧ t 28 = .sc (.bool x12.2.2) ∧ t 103 = .sc (.bool false)) (fun J hJ => ?_) ?_
        · simp [-splice, f1, f3, f12, f14, f15, f16, f17, f18, f19, f20, f21, f22, f23, f24, f25, f26, f27, f28, f99]
          exact hJ _ _ _ ⟨by simp [f1], by simp [f3], by simp [f15], by simp [f16], by simp [f17], by simp [f18], by simp [f19], by simp [f20], by simp [f21], by simp [f22], by simp [f23], by simp [f24], by simp [f25], by simp [f26], by simp [f27], by simp [f28], by simp [-splice, f1, f3, f12, f14, f15, f16, f17, f18, f19, f20, f21, f22, f23, f24, f25, f26, f27, f28, f99]⟩
        clear f1 f3 f12 f14 f15 f16 f17 f18 f19 f20 f21 f22 f23 f24 f25 f26 f27 f28 f99
        rintro t H n ⟨f1, f3, f15, f16, f17, f18, f19, f20, f21, f22, f23, f24, f25, f26, f27, f28, f103⟩
        refine Stk.on ?_
        exact Stk.ln 0 (by decide) (hJ4 _ _ _ ⟨f1, f3, f15, f16, f17, f18, f19, f20, f21, f22, f23, f24, f25, f26, f27, f28, f103.trans (congrArg (fun q => AV.sc (.bool q)) (by rw [hb4]; rfl))⟩)
    clear f1 f3 f12 f14 f15 f16 f17 f18 f19 f20 f21 f22 f23 f24 f25 f26 f27 f28 f99
    rintro t H n ⟨f1, f3, f15, f16, f17, f18, f19, f20, f21, f22, f23, f24, f25, f26, f27, f28, f103⟩
    refine Stk.run 1 (fun t H n => t 1 = .ssl (encs c97 a1) a1.length false ∧ t 3 = .sc (.int .i64 a3) ∧ t 15 = .ssl (encs c97 x7.1) x7.1.length false ∧ t 16 = .sc (.int .i64 x7.2) ∧ t 17 = .ssl (encs c97 x8.1) x8.1.length false ∧ t 18 = .sc (.int .i64 x8.2) ∧ t 19 = .sc (.int .i64 x9.1) ∧ t 20 = .sc (.int .i64 x9.2) ∧ t 21 = .sc (.int .i64 x10.1) ∧ t 22 = .sc (.int .i64 x10.2) ∧ t 23 = .sc (.int .i64 x11.1) ∧ t 24 = .ssl (encs c97 x11.2.1) x11.2.1.length false ∧ t 25 = .sc (.bool x11.2.2) ∧ t 26 = .sc (.int .i64 x12.1) ∧ t 27 = .ssl (encs c97 x12.2.1) x12.2.1.length false ∧ t 28 = .sc (.bool x12.2.2) ∧ t 104 = .sc (.bool (v15 && (x5.2 == x6.2)))) (fun J hJ => ?_) ?_
    · simp [-splice, f1, f3, f15, f16, f17, f18, f19, f20, f21, f22, f23, f24, f25, f26, f27, f28, f103]
      exact hJ _ _ _ ⟨by simp [f1], by simp [f3], by simp [f15], by simp [f16], by simp [f17], by simp [f18], by simp [f19], by simp [f20], by simp [f21], by simp [f22], by simp [f23], by simp [f24], by simp [f25], by simp [f26], by simp [f27], by simp [f28], by simp [-splice, f1, f3, f15, f16, f17, f18, f19, f20, f21, f22, f23, f24, f25, f26, f27, f28, f103]⟩
    clear f1 f3 f15 f16 f17 f18 f19 f20 f21 f22 f23 f24 f25 f26 f27 f28 f103
    rintro t H n ⟨f1, f3, f15, f16, f17, f18, f19, f20, f21, f22, f23, f24, f25, f26, f27, f28, f104⟩
    obtain ⟨K5, hK5, h⟩ := jnd h
    refine Stk.jo 4 (fun t H n => ∃ v17 : Bool, K5 v17 = some r ∧ t 1 = .ssl (encs c97 a1) a1.length false ∧ t 3 = .sc (.int .i64 a3) ∧ t 16 = .sc (.int .i64 x7.2) ∧ t 18 = .sc (.int .i64 x8.2) ∧ t 19 = .sc (.int .i64 x9.1) ∧ t 20 = .sc (.int .i64 x9.2) ∧ t 21 = .sc (.int .i64 x10.1) ∧ t 22 = .sc (.int .i64 x10.2) ∧ t 23 = .sc (.int .i64 x11.1) ∧ t 24 = .ssl (encs c97 x11.2.1) x11.2.1.length false ∧ t 25 = .sc (.bool x11.2.2) ∧ t 26 = .sc (.int .i64 x12.1) ∧ t 27 = .ssl (encs c97 x12.2.1) x12.2.1.length false ∧ t 28 = .sc (.bool x12.2.2) ∧ t 108 = .sc (.bool v17)) (fun J5 hJ5 => ?_) ?_
    · rcases Bool.eq_false_or_eq_true (v15 && (x5.2 == x6.2)) with hb5 | hb5
      · rw [hb5] at f104
        replace h := cT hb5 h
        refine Stk.run 2 (fun t H n => t 1 = .ssl (encs c97 a1) a1.length false ∧ t 3 = .sc (.int .i64 a3) ∧ t 16 = .sc (.int .i64 x7.2) ∧ t 18 = .sc (.int .i64 x8.2) ∧ t 19 = .sc (.int .i64 x9.1) ∧ t 20 = .sc (.int .i64 x9.2) ∧ t 21 = .sc (.int .i64 x10.1) ∧ t 22 = .sc (.int .i64 x10.2) ∧ t 23 = .sc (.int .i64 x11.1) ∧ t 24 = .ssl (encs c97 x11.2.1) x11.2.1.length false ∧ t 25 = .sc (.bool x11.2.2) ∧ t 26 = .sc (.int .i64 x12.1) ∧ t 27 = .ssl (encs c97 x12.2.1) x12.2.1.length false ∧ t 28 = .sc (.bool x12.2.2) ∧ t 104 = .sc (.bool true) ∧ t 105 = .ssl (encs c97 x7.1) x7.1.length false ∧ t 106 = .ssl (encs c97 x8.1) x8.1.length false) (fun J hJ => ?_) ?_
        · simp [-splice, f1, f3, f15, f16, f17, f18, f19, f20, f21, f22, f23, f24, f25, f26, f27, f28, f104]
          exact hJ _ _ _ ⟨by simp [f1], by simp [f3], by simp [f16], by simp [f18], by simp [f19], by simp [f20], by simp [f21], by simp [f22], by simp [f23], by simp [f24], by simp [f25], by simp [f26], by simp [f27], by simp [f28], by simp [f104], by simp [-splice, f1, f3, f15, f16, f17, f18, f19, f20, f21, f22, f23, f24, f25, f26, f27, f28, f104], by simp [-splice, f1, f3, f15, f16, f17, f18, f19, f20, f21, f22, f23, f24, f25, f26, f27, f28, f104]⟩
        clear f1 f3 f15 f16 f17 f18 f19 f20 f21 f22 f23 f24 f25 f26 f27 f28 f104
        rintro t H n ⟨f1, f3, f16, f18, f19, f20, f21, f22, f23, f24, f25, f26, f27, f28, f104, f105, f106⟩
        obtain ⟨x18, hx18, h⟩ := bnd h
        refine Stk.cv (g := 22) (args := [.ssl (encs c97 x7.1) x7.1.length false, .ssl (encs c97 x8.1) x8.1.length false]) (args' := [.ssl (encs c97 x7.1) x7.1.length false, .ssl (encs c97 x8.1) x8.1.length false]) (v := .sc (.bool x18)) [] (ok_R13_Same F _ _ _ hx18) (by simp [f1, f3, f16, f18, f19, f20, f21, f22, f23, f24, f25, f26, f27, f28, f104, f105, f106]) rfl rfl (by simp [f1, f3, f16, f18, f19, f20, f21, f22, f23, f24, f25, f26, f27, f28, f104, f105, f106]) (.cons (.free (freeL_encs fr97 _)) (.cons (.free (freeL_encs fr97 _)) (.nil))) (.inl ⟨rfl, rfl⟩) (fun t' ht' => ?_)
        refine Stk.gen (fun t H n => t 1 = .ssl (encs c97 a1) a1.length false ∧ t 3 = .sc (.int .i64 a3) ∧ t 16 = .sc (.int .i64 x7.2) ∧ t 18 = .sc (.int .i64 x8.2) ∧ t 19 = .sc (.int .i64 x9.1) ∧ t 20 = .sc (.int .i64 x9.2) ∧ t 21 = .sc (.int .i64 x10.1) ∧ t 22 = .sc (.int .i64 x10.2) ∧ t 23 = .sc (.int .i64 x11.1) ∧ t 24 = .ssl (encs c97 x11.2.1) x11.2.1.length false ∧ t 25 = .sc (.bool x11.2.2) ∧ t 26 = .sc (.int .i64 x12.1) ∧ t 27 = .ssl (encs c97 x12.2.1) x12.2.1.length false ∧ t 28 = .sc (.bool x12.2.2) ∧ t 104 = .sc (.bool true) ∧ t 107 = .sc (.bool x18)) ⟨by simp [ht', f1], by simp [ht', f3], by simp [ht', f16], by simp [ht', f18], by simp [ht', f19], by simp [ht', f20], by simp [ht', f21], by simp [ht', f22], by simp [ht', f23], by simp [ht', f24], by simp [ht', f25], by simp [ht', f26], by simp [ht', f27], by simp [ht', f28], by simp [ht', f104], by simp [ht']⟩ ?_
        clear f1 f3 f16 f18 f19 f20 f21 f22 f23 f24 f25 f26 f27 f28 f104 f105 f106 ht' t'
        rintro t H n ⟨f1, f3, f16, f18, f19, f20, f21, f22, f23, f24, f25, f26, f27, f28, f104, f107⟩
        refine Stk.run 1 (fun t H n => t 1 = .ssl (encs c97 a1) a1.length false ∧ t 3 = .sc (.int .i64 a3) ∧ t 16 = .sc (.int .i64 x7.2) ∧ t 18 = .sc (.int .i64 x8.2) ∧ t 19 = .sc (.int .i64 x9.1) ∧ t 20 = .sc (.int .i64 x9.2) ∧ t 21 = .sc (.int .i64 x10.1) ∧ t 22 = .sc (.int .i64 x10.2) ∧ t 23 = .sc (.int .i64 x11.1) ∧ t 24 = .ssl (encs c97 x11.2.1) x11.2.1.length false ∧ t 25 = .sc (.bool x11.2.2) ∧ t 26 = .sc (.int .i64 x12.1) ∧ t 27 = .ssl (encs c97 x12.2.1) x12.2.1.length false ∧ t 28 = .sc (.bool x12.2.2) ∧ t 108 = .sc (.bool x18)) (fun J hJ => ?_) ?_
        · simp [-splice, f1, f3, f16, f18, f19, f20, f21, f22, f23, f24, f25, f26, f27, f28, f104, f107]
          exact hJ _ _ _ ⟨by simp [f1], by simp [f3], by simp [f16], by simp [f18], by simp [f19], by simp [f20], by simp [f21], by simp [f22], by simp [f23], by simp [f24], by simp [f25], by simp [f26], by simp [f27], by simp [f28], by simp [-splice, f1, f3, f16, f18, f19, f20, f21, f22, f23, f24, f25, f26, f27, f28, f104, f107]⟩
        clear f1 f3 f16 f18 f19 f20 f21 f22 f23 f24 f25 f26 f27 f28 f104 f107
        rintro t H n ⟨f1, f3, f16, f18, f19, f20, f21, f22, f23, f24, f25, f26, f27, f28, f108⟩
        refine Stk.on ?_
        exact Stk.ln 0 (by decide) (hJ5 _ _ _ ⟨x18, h, f1, f3, f16, f18, f19, f20, f21, f22, f23, f24, f25, f26, f27, f28, f108⟩)
      · rw [hb5] at f104
        replace h := cF hb5 h
        refine Stk.run 4 (fun t H n => t 1 = .ssl (encs c97 a1) a1.length false ∧ t 3 = .sc (.int .i64 a3) ∧ t 16 = .sc (.int .i64 x7.2) ∧ t 18 = .sc (.int .i64 x8.2) ∧ t 19 = .sc (.int .i64 x9.1) ∧ t 20 = .sc (.int .i64 x9.2) ∧ t 21 = .sc (.int .i64 x10.1) ∧ t 22 = .sc (.int .i64 x10.2) ∧ t 23 = .sc (.int .i64 x11.1) ∧ t 24 = .ssl (encs c97 x11.2.1) x11.2.1.length false ∧ t 25 = .sc (.bool x11.2.2) ∧ t 26 = .sc (.int .i64 x12.1) ∧ t 27 = .ssl (encs c97 x12.2.1) x12.2.1.length false ∧ t 28 = .sc (.bool x12.2.2) ∧ t 108 = .sc (.bool false)) (fun J hJ => ?_) ?_
        · simp [-splice, f1, f3, f15, f16, f17, f18, f19, f20, f21, f22, f23, f24, f25, f26, f27, f28, f104]
          exact hJ _ _ _ ⟨by simp [f1], by simp [f3], by simp [f16], by simp [f18], by simp [f19], by simp [f20], by simp [f21], by simp [f22], by simp [f23], by simp [f24], by simp [f25], by simp [f26], by simp [f27], by simp [f28], by simp [-splice, f1, f3, f15, f16, f17, f18, f19, f20, f21, f22, f23, f24, f25, f26, f27, f28, f104]⟩
        clear f1 f3 f15 f16 f17 f18 f19 f20 f21 f22 f23 f24 f25 f26 f27 f28 f104
        rintro t H n ⟨f1, f3, f16, f18, f19, f20, f21, f22, f23, f24, f25, f26, f27, f28, f108⟩
        refine Stk.on ?_
        exact Stk.ln 0 (by decide) (hJ5 _ _ _ ⟨false, h, f1, f3, f16, f18, f19, f20, f21, f22, f23, f24, f25, f26, f27, f28, f108⟩)
    clear h f1 f3 f15 f16 f17 f18 f19 f20 f21 f22 f23 f24 f25 f26 f27 f28 f104
    rintro t H n ⟨v17, h, f1, f3, f16, f18, f19, f20, f21, f22, f23, f24, f25, f26, f27, f28, f108⟩
    subst hK5
    refine Stk.run 1 (fun t H n => t 1 = .ssl (encs c97 a1) a1.length false ∧ t 3 = .sc (.int .i64 a3) ∧ t 16 = .sc (.int .i64 x7.2) ∧ t 18 = .sc (.int .i64 x8.2) ∧ t 19 = .sc (.int .i64 x9.1) ∧ t 20 = .sc (.int .i64 x9.2) ∧ t 21 = .sc (.int .i64 x10.1) ∧ t 22 = .sc (.int .i64 x10.2) ∧ t 23 = .sc (.int .i64 x11.1) ∧ t 24 = .ssl (encs c97 x11.2.1) x11.2.1.length false ∧ t 25 = .sc (.bool x11.2.2) ∧ t 26 = .sc (.int .i64 x12.1) ∧ t 27 = .ssl (encs c97 x12.2.1) x12.2.1.length false ∧ t 28 = .sc (.bool x12.2.2) ∧ t 109 = .sc (.bool v17)) (fun J hJ => ?_) ?_
    · simp [-splice, f1, f3, f16, f18, f19, f20, f21, f22, f23, f24, f25, f26, f27, f28, f108]
      exact hJ _ _ _ ⟨by simp [f1], by simp [f3], by simp [f16], by simp [f18], by simp [f19], by simp [f20], by simp [f21], by simp [f22], by simp [f23], by simp [f24], by simp [f25], by simp [f26], by simp [f27], by simp [f28], by simp [-splice, f1, f3, f16, f18, f19, f20, f21, f22, f23, f24, f25, f26, f27, f28, f108]⟩
    clear f1 f3 f16 f18 f19 f20 f21 f22 f23 f24 f25 f26 f27 f28 f108
    rintro t H n ⟨f1, f3, f16, f18, f19, f20, f21, f22, f23, f24, f25, f26, f27, f28, f109⟩
    refine Stk.jo 4 (fun t H n => t 1 = .ssl (encs c97 a1) a1.length false ∧ t 3 = .sc (.int .i64 a3) ∧ t 19 = .sc (.int .i64 x9.1) ∧ t 20 = .sc (.int .i64 x9.2) ∧ t 21 = .sc (.int .i64 x10.1) ∧ t 22 = .sc (.int .i64 x10.2) ∧ t 23 = .sc (.int .i64 x11.1) ∧ t 24 = .ssl (encs c97 x11.2.1) x11.2.1.length false ∧ t 25 = .sc (.bool x11.2.2) ∧ t 26 = .sc (.int .i64 x12.1) ∧ t 27 = .ssl (encs c97 x12.2.1) x12.2.1.length false ∧ t 28 = .sc (.bool x12.2.2) ∧ t 113 = .sc (.bool (v17 && (x7.2 == x8.2)))) (fun J6 hJ6 => ?_) ?_
    · rcases Bool.eq_false_or_eq_true v17 with hb6 | hb6
      · rw [hb6] at f109
        refine Stk.run 4 (fun t H n => t 1 = .ssl (encs c97 a1) a1.length false ∧ t 3 = .sc (.int .i64 a3) ∧ t 19 = .sc (.int .i64 x9.1) ∧ t 20 = .sc (.int .i64 x9.2) ∧ t 21 = .sc (.int .i64 x10.1) ∧ t 22 = .sc (.int .i64 x10.2) ∧ t 23 = .sc (.int .i64 x11.1) ∧ t 24 = .ssl (encs c97 x11.2.1) x11.2.1.length false ∧ t 25 = .sc (.bool x11.2.2) ∧ t 26 = .sc (.int .i64 x12.1) ∧ t 27 = .ssl (encs c97 x12.2.1) x12.2.1.length false ∧ t 28 = .sc (.bool x12.2.2) ∧ t 113 = .sc (.bool (x7.2 == x8.2))) (fun J hJ => ?_) ?_
        · simp [-splice, f1, f3, f16, f18, f19, f20, f21, f22, f23, f24, f25, f26, f27, f28, f109]
          exact hJ _ _ _ ⟨by simp [f1], by simp [f3], by simp [f19], by simp [f20], by simp [f21], by simp [f22], by simp [f23], by simp [f24], by simp [f25], by simp [f26], by simp [f27], by simp [f28], by simp [-splice, f1, f3, f16, f18, f19, f20, f21, f22, f23, f24, f25, f26, f27, f28, f109]⟩
        clear f1 f3 f16 f18 f19 f20 f21 f22 f23 f24 f25 f26 f27 f28 f109
        rintro t H n ⟨f1, f3, f19, f20, f21, f22, f23, f24, f25, f26, f27, f28, f113⟩
        refine Stk.on ?_
        exact Stk.ln 0 (by decide) (hJ6 _ _ _ ⟨f1, f3, f19, f20, f21, f22, f23, f24, f25, f26, f27, f28, f113.trans (congrArg (fun q => AV.sc (.bool q)) (by rw [hb6]; rfl))⟩)
      · rw [hb6] at f109
        refine Stk.run 4 (fun t H n => t 1 = .ssl (encs c97 a1) a1.length false ∧ t 3 = .sc (.int .i64 a3) ∧ t 19 = .sc (.int .i64 x9.1) ∧ t 20 = .sc (.int .i64 x9.2) ∧ t 21 = .sc (.int .i64 x10.1) ∧ t 22 = .sc (.int .i64 x10.2) ∧ t 23 = .sc (.int .i64 x11.1) ∧ t 24 = .ssl (encs c97 x11.2.1) x11.2.1.length false ∧ t 25 = .sc (.bool x11.2.2) ∧ t 26 = .sc (.int .i64 x12.1) ∧ t 27 = .ssl (encs c97 x12.2.1) x12.2.1.length false ∧ t 28 = .sc (.bool x12.2.2) ∧ t 113 = .sc (.bool false)) (fun J hJ => ?_) ?_
        · simp [-splice, f1, f3, f16, f18, f19, f20, f21, f22, f23, f24, f25, f26, f27, f28, f109]
          exact hJ _ _ _ ⟨by simp [f1], by simp [f3], by simp [f19], by simp [f20], by simp [f21], by simp [f22], by simp [f23], by simp [f24], by simp [f25], by simp [f26], by simp [f27], by simp [f28], by simp [-splice, f1, f3, f16, f18, f19, f20, f21, f22, f23, f24, f25, f26, f27, f28, f109]⟩
        clear f1 f3 f16 f18 f19 f20 f21 f22 f23 f24 f25 f26 f27 f28 f109
        rintro t H n ⟨f1, f3, f19, f20, f21, f22, f23, f24, f25, f26, f27, f28, f113⟩
        refine Stk.on ?_
        exact Stk.ln 0 (by decide) (hJ6 _ _ _ ⟨f1, f3, f19, f20, f21, f22, f23, f24, f25, f26, f27, f28, f113.trans (congrArg (fun q => AV.sc (.bool q)) (by rw [hb6]; rfl))⟩)
    clear f1 f3 f16 f18 f19 f20 f21 f22 f23 f24 f25 f26 f27 f28 f109
    rintro t H n ⟨f1, f3, f19, f20, f21, f22, f23, f24, f25, f26, f27, f28, f113⟩
    refine Stk.run 1 (fun t H n => t 1 = .ssl (encs c97 a1) a1.length false ∧ t 3 = .sc (.int .i64 a3) ∧ t 19 = .sc (.int .i64 x9.1) ∧ t 20 = .sc (.int .i64 x9.2) ∧ t 21 = .sc (.int .i64 x10.1) ∧ t 22 = .sc (.int .i64 x10.2) ∧ t 23 = .sc (.int .i64 x11.1) ∧ t 24 = .ssl (encs c97 x11.2.1) x11.2.1.length false ∧ t 25 = .sc (.bool x11.2.2) ∧ t 26 = .sc (.int .i64 x12.1) ∧ t 27 = .ssl (encs c97 x12.2.1) x12.2.1.length false ∧ t 28 = .sc (.bool x12.2.2) ∧ t 114 = .sc (.bool (v17 && (x7.2 == x8.2)))) (fun J hJ => ?_) ?_
    · simp [-splice, f1, f3, f19, f20, f21, f22, f23, f24, f25, f26, f27, f28, f113]
      exact hJ _ _ _ ⟨by simp [f1], by simp [f3], by simp [f19], by simp [f20], by simp [f21], by simp [f22], by simp [f23], by simp [f24], by simp [f25], by simp [f26], by simp [f27], by simp [f28], by simp [-splice, f1, f3, f19, f20, f21, f22, f23, f24, f25, f26, f27, f28, f113]⟩
    clear f1 f3 f19 f20 f21 f22 f23 f24 f25 f26 f27 f28 f113
    rintro t H n ⟨f1, f3, f19, f20, f21, f22, f23, f24, f25, f26, f27, f28, f114⟩
    refine Stk.jo 4 (fun t H n => t 1 = .ssl (encs c97 a1) a1.length false ∧ t 3 = .sc (.int .i64 a3) ∧ t 20 = .sc (.int .i64 x9.2) ∧ t 22 = .sc (.int .i64 x10.2) ∧ t 23 = .sc (.int .i64 x11.1) ∧ t 24 = .ssl (encs c97 x11.2.1) x11.2.1.length false ∧ t 25 = .sc (.bool x11.2.2) ∧ t 26 = .sc (.int .i64 x12.1) ∧ t 27 = .ssl (encs c97 x12.2.1) x12.2.1.length false ∧ t 28 = .sc (.bool x12.2.2) ∧ t 118 = .sc (.bool ((v17 && (x7.2 == x8.2)) && (x9.1 == x10.1)))) (fun J7 hJ7 => ?_) ?_
    · rcases Bool.eq_false_or_eq_true (v17 && (x7.2 == x8.2)) with hb7 | hb7
      · rw [hb7] at f114
        refine Stk.run 4 (fun t H n => t 1 = .ssl (encs c97 a1) a1.length false ∧ t 3 = .sc (.int .i64 a3) ∧ t 20 = .sc (.int .i64 x9.2) ∧ t 22 = .sc (.int .i64 x10.2) ∧ t 23 = .sc (.int .i64 x11.1) ∧ t 24 = .ssl (encs c97 x11.2.1) x11.2.1.length false ∧ t 25 = .sc (.bool x11.2.2) ∧ t 26 = .sc (.int .i64 x12.1) ∧ t 27 = .ssl (encs c97 x12.2.1) x12.2.1.length false ∧ t 28 = .sc (.bool x12.2.2) ∧ t 118 = .sc (.bool (x9.1 == x10.1))) (fun J hJ => ?_) ?_
        · simp [-splice, f1, f3, f19, f20, f21, f22, f23, f24, f25, f26, f27, f28, f114]
          exact hJ _ _ _ ⟨by simp [f1], by simp [f3], by simp [f20], by simp [f22], by simp [f23], by simp [f24], by simp [f25], by simp [f26], by simp [f27], by simp [f28], by simp [-splice, f1, f3, f19, f20, f21, f22, f23, f24, f25, f26, f27, f28, f114]⟩
        clear f1 f3 f19 f20 f21 f22 f23 f24 f25 f26 f27 f28 f114
        rintro t H n ⟨f1, f3, f20, f22, f23, f24, f25, f26, f27, f28, f118⟩
        refine Stk.on ?_
        exact Stk.ln 0 (by decide) (hJ7 _ _ _ ⟨f1, f3, f20, f22, f23, f24, f25, f26, f27, f28, f118.trans (congrArg (fun q => AV.sc (.bool q)) (by rw [hb7]; rfl))⟩)
      · rw [hb7] at f114
        refine Stk.run 4 (fun t H n => t 1 = .ssl (encs c97 a1) a1.length false ∧ t 3 = .sc (.int .i64 a3) ∧ t 20 = .sc (.int .i64 x9.2) ∧ t 22 = .sc (.int .i64 x10.2) ∧ t 23 = .sc (.int .i64 x11.1) ∧ t 24 = .ssl (encs c97 x11.2.1) x11.2.1.length false ∧ t 25 = .sc (.bool x11.2.2) ∧ t 26 = .sc (.int .i64 x12.1) ∧ t 27 = .ssl (encs c97 x12.2.1) x12.2.1.length false ∧ t 28 = .sc (.bool x12.2.2) ∧ t 118 = .sc (.bool false)) (fun J hJ => ?_) ?_
        · simp [-splice, f1, f3, f19, f20, f21, f22, f23, f24, f25, f26, f27, f28, f114]
          exact hJ _ _ _ ⟨by simp [f1], by simp [f3], by simp [f20], by simp [f22], by simp [f23], by simp [f24], by simp [f25], by simp [f26], by simp [f27], by simp [f28], by simp [-splice, f1, f3, f19, f20, f21, f22, f23, f24, f25, f26, f27, f28, f114]⟩
        clear f1 f3 f19 f20 f21 f22 f23 f24 f25 f26 f27 f28 f114
        rintro t H n ⟨f1, f3, f20, f22, f23, f24, f25, f26, f27, f28, f118⟩
        refine Stk.on ?_
        exact Stk.ln 0 (by decide) (hJ7 _ _ _ ⟨f1, f3, f20, f22, f23, f24, f25, f26, f27, f28, f118.trans (congrArg (fun q => AV.sc (.bool q)) (by rw [hb7]; rfl))⟩)
    clear f1 f3 f19 f20 f21 f22 f23 f24 f25 f26 f27 f28 f114
    rintro t H n ⟨f1, f3, f20, f22, f23, f24, f25, f26, f27, f28, f118⟩
    refine Stk.run 1 (fun t H n => t 1 = .ssl (encs c97 a1) a1.length false ∧ t 3 = .sc (.int .i64 a3) ∧ t 20 = .sc (.int .i64 x9.2) ∧ t 22 = .sc (.int .i64 x10.2) ∧ t 23 = .sc (.int .i64 x11.1) ∧ t 24 = .ssl (encs c97 x11.2.1) x11.2.1.length false ∧ t 25 = .sc (.bool x11.2.2) ∧ t 26 = .sc (.int .i64 x12.1) ∧ t 27 = .ssl (encs c97 x12.2.1) x12.2.1.length false ∧ t 28 = .sc (.bool x12.2.2) ∧ t 119 = .sc (.bool ((v17 && (x7.2 == x8.2)) && (x9.1 == x10.1)))) (fun J hJ => ?_) ?_
    · simp [-splice, f1, f3, f20, f22, f23, f24, f25, f26, f27, f28, f118]
      exact hJ _ _ _ ⟨by simp [f1], by simp [f3], by simp [f20], by simp [f22], by simp [f23], by simp [f24], by simp [f25], by simp [f26], by simp [f27], by simp [f28], by simp [-splice, f1, f3, f20, f22, f23, f24, f25, f26, f27, f28, f118]⟩
    clear f1 f3 f20 f22 f23 f24 f25 f26 f27 f28 f118
    rintro t H n ⟨f1, f3, f20, f22, f23, f24, f25, f26, f27, f28, f119⟩
    refine Stk.jo 4 (fun t H n => t 1 = .ssl (encs c97 a1) a1.length false ∧ t 3 = .sc (.int .i64 a3) ∧ t 23 = .sc (.int .i64 x11.1) ∧ t 24 = .ssl (encs c97 x11.2.1) x11.2.1.length false ∧ t 25 = .sc (.bool x11.2.2) ∧ t 26 = .sc (.int .i64 x12.1) ∧ t 27 = .ssl (encs c97 x12.2.1) x12.2.1.length false ∧ t 28 = .sc (.bool x12.2.2) ∧ t 123 = .sc (.bool (((v17 && (x7.2 == x8.2)) && (x9.1 == x10.1)) && (x9.2 == x10.2)))) (fun J8 hJ8 => ?_) ?_
    · rcases Bool.eq_false_or_eq_true ((v17 && (x7.2 == x8.2)) && (x9.1 == x10.1)) with hb8 | hb8
      · rw [hb8] at f119
        refine Stk.run 4 (fun t H n => t 1 = .ssl (encs c97 a1) a1.length false ∧ t 3 = .sc (.int .i64 a3) ∧ t 23 = .sc (.int .i64 x11.1) ∧ t 24 = .ssl (encs c97 x11.2.1) x11.2.1.length false ∧ t 25 = .sc (.bool x11.2.2) ∧ t 26 = .sc (.int .i64 x12.1) ∧ t 27 = .ssl (encs c97 x12.2.1) x12.2.1.length false ∧ t 28 = .sc (.bool x12.2.2) ∧ t 123 = .sc (.bool (x9.2 == x10.2))) (fun J hJ => ?_) ?_
        · simp [-splice, f1, f3, f20, f22, f23, f24, f25, f26, f27, f28, f119]
          exact hJ _ _ _ ⟨by simp [f1], by simp [f3], by simp [f23], by simp [f24], by simp [f25], by simp [f26], by simp [f27], by simp [f28], by simp [-splice, f1, f3, f20, f22, f23, f24, f25, f26, f27, f28, f119]⟩
        clear f1 f3 f20 f22 f23 f24 f25 f26 f27 f28 f119
        rintro t H n ⟨f1, f3, f23, f24, f25, f26, f27, f28, f123⟩
        refine Stk.on ?_
        exact Stk.ln 0 (by decide) (hJ8 _ _ _ ⟨f1, f3, f23, f24, f25, f26, f27, f28, f123.trans (congrArg (fun q => AV.sc (.bool q)) (by rw [hb8]; rfl))⟩)
      · rw [hb8] at f119
        refine Stk.run 4 (fun t H n => t 1 = .ssl (encs c97 a1) a1.length false ∧ t 3 = .sc (.int .i64 a3) ∧ t 23 = .sc (.int .i64 x11.1) ∧ t 24 = .ssl (encs c97 x11.2.1) x11.2.1.length false ∧ t 25 = .sc (.bool x11.2.2) ∧ t 26 = .sc (.int .i64 x12.1) ∧ t 27 = .ssl (encs c97 x12.2.1) x12.2.1.length false ∧ t 28 = .sc (.bool x12.2.2) ∧ t 123 = .sc (.bool false)) (fun J hJ => ?_) ?_
        · simp [-splice, f1, f3, f20, f22, f23, f24, f25, f26, f27, f28, f119]
          exact hJ _ _ _ ⟨by simp [f1], by simp [f3], by simp [f23], by simp [f24], by simp [f25], by simp [f26], by simp [f27], by simp [f28], by simp [-splice, f1, f3, f20, f22, f23, f24, f25, f26, f27, f28, f119]⟩
        clear f1 f3 f20 f22 f23 f24 f25 f26 f27 f28 f119
        rintro t H n ⟨f1, f3, f23, f24, f25, f26, f27, f28, f123⟩
        refine Stk.on ?_
        exact Stk.ln 0 (by decide) (hJ8 _ _ _ ⟨f1, f3, f23, f24, f25, f26, f27, f28, f123.trans (congrArg (fun q => AV.sc (.bool q)) (by rw [hb8]; rfl))⟩)
    clear f1 f3 f20 f22 f23 f24 f25 f26 f27 f28 f119
    rintro t H n ⟨f1, f3, f23, f24, f25, f26, f27, f28, f123⟩
    refine Stk.run 1 (fun t H n => t 1 = .ssl (encs c97 a1) a1.length false ∧ t 3 = .sc (.int .i64 a3) ∧ t 23 = .sc (.int .i64 x11.1) ∧ t 24 = .ssl (encs c97 x11.2.1) x11.2.1.length false ∧ t 25 = .sc (.bool x11.2.2) ∧ t 26 = .sc (.int .i64 x12.1) ∧ t 27 = .ssl (encs c97 x12.2.1) x12.2.1.length false ∧ t 28 = .sc (.bool x12.2.2) ∧ t 124 = .sc (.bool (((v17 && (x7.2 == x8.2)) && (x9.1 == x10.1)) && (x9.2 == x10.2)))) (fun J hJ => ?_) ?_
    · simp [-splice, f1, f3, f23, f24, f25, f26, f27, f28, f123]
      exact hJ _ _ _ ⟨by simp [f1], by simp [f3], by simp [f23], by simp [f24], by simp [f25], by simp [f26], by simp [f27], by simp [f28], by simp [-splice, f1, f3, f23, f24, f25, f26, f27, f28, f123]⟩
    clear f1 f3 f23 f24 f25 f26 f27 f28 f123
    rintro t H n ⟨f1, f3, f23, f24, f25, f26, f27, f28, f124⟩
    refine Stk.jo 4 (fun t H n => t 1 = .ssl (encs c97 a1) a1.length false ∧ t 3 = .sc (.int .i64 a3) ∧ t 24 = .ssl (encs c97 x11.2.1) x11.2.1.length false ∧ t 25 = .sc (.bool x11.2.2) ∧ t 27 = .ssl (encs c97 x12.2.1) x12.2.1.length false ∧ t 28 = .sc (.bool x12.2.2) ∧ t 128 = .sc (.bool ((((v17 && (x7.2 == x8.2)) && (x9.1 == x10.1)) && (x9.2 == x10.2)) && (x11.1 == x12.1)))) (fun J9 hJ9 => ?_) ?_
    · rcases Bool.eq_false_or_eq_true (((v17 && (x7.2 == x8.2)) && (x9.1 == x10.1)) && (x9.2 == x10.2)) with hb9 | hb9
      · rw [hb9] at f124
        refine Stk.run 4 (fun t H n => t 1 = .ssl (encs c97 a1) a1.length false ∧ t 3 = .sc (.int .i64 a3) ∧ t 24 = .ssl (encs c97 x11.2.1) x11.2.1.length false ∧ t 25 = .sc (.bool x11.2.2) ∧ t 27 = .ssl (encs c97 x12.2.1) x12.2.1.length false ∧ t 28 = .sc (.bool x12.2.2) ∧ t 128 = .sc (.bool (x11.1 == x12.1))) (fun J hJ => ?_) ?_
        · simp [-splice, f1, f3, f23, f24, f25, f26, f27, f28, f124]
          exact hJ _ _ _ ⟨by simp [f1], by simp [f3], by simp [f24], by simp [f25], by simp [f27], by simp [f28], by simp [-splice, f1, f3, f23, f24, f25, f26, f27, f28, f124]⟩
        clear f1 f3 f23 f24 f25 f26 f27 f28 f124
        rintro t H n ⟨f1, f3, f24, f25, f27, f28, f128⟩
        refine Stk.on ?_
        exact Stk.ln 0 (by decide) (hJ9 _ _ _ ⟨f1, f3, f24, f25, f27, f28, f128.trans (congrArg (fun q => AV.sc (.bool q)) (by rw [hb9]; rfl))⟩)
      · rw [hb9] at f124
        refine Stk.run 4 (fun t H n => t 1 = .ssl (encs c97 a1) a1.length false ∧ t 3 = .sc (.int .i64 a3) ∧ t 24 = .ssl (encs c97 x11.2.1) x11.2.1.length false ∧ t 25 = .sc (.bool x11.2.2) ∧ t 27 = .ssl (encs c97 x12.2.1) x12.2.1.length false ∧ t 28 = .sc (.bool x12.2.2) ∧ t 128 = .sc (.bool false)) (fun J hJ => ?_) ?_
        · simp [-splice, f1, f3, f23, f24, f25, f26, f27, f28, f124]
          exact hJ _ _ _ ⟨by simp [f1], by simp [f3], by simp [f24], by simp [f25], by simp [f27], by simp [f28], by simp [-splice, f1, f3, f23, f24, f25, f26, f27, f28, f124]⟩
        clear f1 f3 f23 f24 f25 f26 f27 f28 f124
        rintro t H n ⟨f1, f3, f24, f25, f27, f28, f128⟩
        refine Stk.on ?_
        exact Stk.ln 0 (by decide) (hJ9 _ _ _ ⟨f1, f3, f24, f25, f27, f28, f128.trans (congrArg (fun q => AV.sc (.bool q)) (by rw [hb9]; rfl))⟩)
    clear f1 f3 f23 f24 f25 f26 f27 f28 f124
    rintro t H n ⟨f1, f3, f24, f25, f27, f28, f128⟩
    refine Stk.run 1 (fun t H n => t 1 = .ssl (encs c97 a1) a1.length false ∧ t 3 = .sc (.int .i64 a3) ∧ t 24 = .ssl (encs c97 x11.2.1) x11.2.1.length false ∧ t 25 = .sc (.bool x11.2.2) ∧ t 27 = .ssl (encs c97 x12.2.1) x12.2.1.length false ∧ t 28 = .sc (.bool x12.2.2) ∧ t 129 = .sc (.bool ((((v17 && (x7.2 == x8.2)) && (x9.1 == x10.1)) && (x9.2 == x10.2)) && (x11.1 == x12.1)))) (fun J hJ => ?_) ?_
    · simp [-splice, f1, f3, f24, f25, f27, f28, f128]
      exact hJ _ _ _ ⟨by simp [f1], by simp [f3], by simp [f24], by simp [f25], by simp [f27], by simp [f28], by simp [-splice, f1, f3, f24, f25, f27, f28, f128]⟩
    clear f1 f3 f24 f25 f27 f28 f128
    rintro t H n ⟨f1, f3, f24, f25, f27, f28, f129⟩
    obtain ⟨K10, hK10, h⟩ := jnd h
    refine Stk.jo 4 (fun t H n => ∃ v19 : Bool, K10 v19 = some r ∧ t 1 = .ssl (encs c97 a1) a1.length false ∧ t 3 = .sc (.int .i64 a3) ∧ t 25 = .sc (.bool x11.2.2) ∧ t 28 = .sc (.bool x12.2.2) ∧ t 133 = .sc (.bool v19)) (fun J10 hJ10 => ?_) ?_
    · rcases Bool.eq_false_or_eq_true ((((v17 && (x7.2 == x8.2)) && (x9.1 == x10.1)) && (x9.2 == x10.2)) && (x11.1 == x12.1)) with hb10 | hb10
      · rw [hb10] at f129
        replace h := cT hb10 h
        refine Stk.run 2 (fun t H n => t 1 = .ssl (encs c97 a1) a1.length false ∧ t 3 = .sc (.int .i64 a3) ∧ t 25 = .sc (.bool x11.2.2) ∧ t 28 = .sc (.bool x12.2.2) ∧ t 129 = .sc (.bool true) ∧ t 130 = .ssl (encs c97 x11.2.1) x11.2.1.length false ∧ t 131 = .ssl (encs c97 x12.2.1) x12.2.1.length false) (fun J hJ => ?_) ?_
        · simp [-splice, f1, f3, f24, f25, f27, f28, f129]
          exact hJ _ _ _ ⟨by simp [f1], by simp [f3], by simp [f25], by simp [f28], by simp [f129], by simp [-splice, f1, f3, f24, f25, f27, f28, f129], by simp [-splice, f1, f3, f24, f25, f27, f28, f129]⟩
        clear f1 f3 f24 f25 f27 f28 f129
        rintro t H n ⟨f1, f3, f25, f28, f129, f130, f131⟩
        obtain ⟨x20, hx20, h⟩ := bnd h
        refine Stk.cv (g := 22) (args := [.ssl (encs c97 x11.2.1) x11.2.1.length false, .ssl (encs c97 x12.2.1) x12.2.1.length false]) (args' := [.ssl (encs c97 x11.2.1) x11.2.1.length false, .ssl (encs c97 x12.2.1) x12.2.1.length false]) (v := .sc (.bool x20)) [] (ok_R13_Same F _ _ _ hx20) (by simp [f1, f3, f25, f28, f129, f130, f131]) rfl rfl (by simp [f1, f3, f25, f28, f129, f130, f131]) (.cons (.free (freeL_encs fr97 _)) (.cons (.free (freeL_encs fr97 _)) (.nil))) (.inl ⟨rfl, rfl⟩) (fun t' ht' => ?_)
        refine Stk.gen (fun t H n => t 1 = .ssl (encs c97 a1) a1.length false ∧ t 3 = .sc (.int .i64 a3) ∧ t 25 = .sc (.bool x11.2.2) ∧ t 28 = .sc (.bool x12.2.2) ∧ t 129 = .sc (.bool true) ∧ t 132 = .sc (.bool x20)) ⟨by simp [ht', f1], by simp [ht', f3], by simp [ht', f25], by simp [ht', f28], by simp [ht', f129], by simp [ht']⟩ ?_
        clear f1 f3 f25 f28 f129 f130 f131 ht' t'
        rintro t H n ⟨f1, f3, f25, f28, f129, f132⟩
        refine Stk.run 1 (fun t H n => t 1 = .ssl (encs c97 a1) a1.length false ∧ t 3 = .sc (.int .i64 a3) ∧ t 25 = .sc (.bool x11.2.2) ∧ t 28 = .sc (.bool x12.2.2) ∧ t 133 = .sc (.bool x20)) (fun J hJ => ?_) ?_
        · simp [-splice, f1, f3, f25, f28, f129, f132]
          exact hJ _ _ _ ⟨by simp [f1], by simp [f3], by simp [f25], by simp [f28], by simp [-splice, f1, f3, f25, f28, f129, f132]⟩
        clear f1 f3 f25 f28 f129 f132
        rintro t H n ⟨f1, f3, f25, f28, f133⟩
        refine Stk.on ?_
        exact Stk.ln 0 (by decide) (hJ10 _ _ _ ⟨x20, h, f1, f3, f25, f28, f133⟩)
      · rw [hb10] at f129
        replace h := cF hb10 h
        refine Stk.run 4 (fun t H n => t 1 = .ssl (encs c97 a1) a1.length false ∧ t 3 = .sc (.int .i64 a3) ∧ t 25 = .sc (.bool x11.2.2) ∧ t 28 = .sc (.bool x12.2.2) ∧ t 133 = .sc (.bool false)) (fun J hJ => ?_) ?_
        · simp [-splice, f1, f3, f24, f25, f27, f28, f129]
          exact hJ _ _ _ ⟨by simp [f1], by simp [f3], by simp [f25], by simp [f28], by simp [-splice, f1, f3, f24, f25, f27, f28, f129]⟩
        clear f1 f3 f24 f25 f27 f28 f129
        rintro t H n ⟨f1, f3, f25, f28, f133⟩
        refine Stk.on ?_
        exact Stk.ln 0 (by decide) (hJ10 _ _ _ ⟨false, h, f1, f3, f25, f28, f133⟩)
    clear h f1 f3 f24 f25 f27 f28 f129
    rintro t H n ⟨v19, h, f1, f3, f25, f28, f133⟩
    subst hK10
    refine Stk.run 1 (fun t H n => t 1 = .ssl (encs c97 a1) a1.length false ∧ t 3 = .sc (.int .i64 a3) ∧ t 25 = .sc (.bool x11.2.2) ∧ t 28 = .sc (.bool x12.2.2) ∧ t 134 = .sc (.bool v19)) (fun J hJ => ?_) ?_
    · simp [-splice, f1, f3, f25, f28, f133]
      exact hJ _ _ _ ⟨by simp [f1], by simp [f3], by simp [f25], by simp [f28], by simp [-splice, f1, f3, f25, f28, f133]⟩
    clear f1 f3 f25 f28 f133
    rintro t H n ⟨f1, f3, f25, f28, f134⟩
    refine Stk.jo 4 (fun t H n => t 1 = .ssl (encs c97 a1) a1.length false ∧ t 3 = .sc (.int .i64 a3) ∧ t 138 = .sc (.bool (v19 && (x11.2.2 == x12.2.2)))) (fun J11 hJ11 => ?_) ?_
    · rcases Bool.eq_false_or_eq_true v19 with hb11 | hb11
      · rw [hb11] at f134
        refine Stk.run 4 (fun t H n => t 1 = .ssl (encs c97 a1) a1.length false ∧ t 3 = .sc (.int .i64 a3) ∧ t 138 = .sc (.bool (x11.2.2 == x12.2.2))) (fun J hJ => ?_) ?_
        · simp [-splice, f1, f3, f25, f28, f134, eqM4]
          exact hJ _ _ _ ⟨by simp [f1], by simp [f3], by simp [-splice, f1, f3, f25, f28, f134, eqM4]⟩
        clear f1 f3 f25 f28 f134
        rintro t H n ⟨f1, f3, f138⟩
        refine Stk.on ?_
        exact Stk.ln 0 (by decide) (hJ11 _ _ _ ⟨f1, f3, f138.trans (congrArg (fun q => AV.sc (.bool q)) (by rw [hb11]; rfl))⟩)
      · rw [hb11] at f134
        refine Stk.run 4 (fun t H n => t 1 = .ssl (encs c97 a1) a1.length false ∧ t 3 = .sc (.int .i64 a3) ∧ t 138 = .sc (.bool false)) (fun J hJ => ?_) ?_
        · simp [-splice, f1, f3, f25, f28, f134]
          exact hJ _ _ _ ⟨by simp [f1], by simp [f3], by simp [-splice, f1, f3, f25, f28, f134]⟩
        clear f1 f3 f25 f28 f134
        rintro t H n ⟨f1, f3, f138⟩
        refine Stk.on ?_
        exact Stk.ln 0 (by decide) (hJ11 _ _ _ ⟨f1, f3, f138.trans (congrArg (fun q => AV.sc (.bool q)) (by rw [hb11]; rfl))⟩)
    clear f1 f3 f25 f28 f134
    rintro t H n ⟨f1, f3, f138⟩
    refine Stk.run 1 (fun t H n => t 1 = .ssl (encs c97 a1) a1.length false ∧ t 3 = .sc (.int .i64 a3) ∧ t 139 = .sc (.bool (v19 && (x11.2.2 == x12.2.2)))) (fun J hJ => ?_) ?_
    · simp [-splice, f1, f3, f138]
      exact hJ _ _ _ ⟨by simp [f1], by simp [f3], by simp [-splice, f1, f3, f138]⟩
    clear f1 f3 f138
    rintro t H n ⟨f1, f3, f139⟩
    obtain ⟨K12, hK12, h⟩ := jnd h
    refine Stk.jo 8 (fun t H n => ∃ v21 : Bool, K12 v21 = some r ∧ t 147 = .sc (.bool v21)) (fun J12 hJ12 => ?_) ?_
    · rcases Bool.eq_false_or_eq_true (v19 && (x11.2.2 == x12.2.2)) with hb12 | hb12
      · rw [hb12] at f139
        replace h := cT hb12 h
        refine Stk.run 2 (fun t H n => t 1 = .ssl (encs c97 a1) a1.length false ∧ t 3 = .sc (.int .i64 a3) ∧ t 139 = .sc (.bool true) ∧ t 140 = .ssl (encs c97 a1) a1.length false ∧ t 141 = .sc (.int .i64 a3)) (fun J hJ => ?_) ?_
        · simp [-splice, f1, f3, f139]
          exact hJ _ _ _ ⟨by simp [f1], by simp [f3], by simp [f139], by simp [-splice, f1, f3, f139], by simp [-splice, f1, f3, f139]⟩
        clear f1 f3 f139
        rintro t H n ⟨f1, f3, f139, f140, f141⟩
        obtain ⟨x22, hx22, h⟩ := bnd h
        refine Stk.cv (g := 39) (args := [.ssl (encs c97 a1) a1.length false, .sc (.int .i64 a3)]) (args' := [.ssl (encs c97 a1) a1.length false, .sc (.int .i64 a3)]) (v := .sc (.bool x22)) [] (ok_poly_Has F _ _ _ hx22) (by simp [f1, f3, f139, f140, f141]) rfl rfl (by simp [f1, f3, f139, f140, f141]) (.cons (.free (freeL_encs fr97 _)) (.cons (.free (rfl)) (.nil))) (.inl ⟨rfl, rfl⟩) (fun t' ht' => ?_)
        refine Stk.gen (fun t H n => t 1 = .ssl (encs c97 a1) a1.length false ∧ t 3 = .sc (.int .i64 a3) ∧ t 139 = .sc (.bool true) ∧ t 142 = .sc (.bool x22)) ⟨by simp [ht', f1], by simp [ht', f3], by simp [ht', f139], by simp [ht']⟩ ?_
        clear f1 f3 f139 f140 f141 ht' t'
        rintro t H n ⟨f1, f3, f139, f142⟩
        refine Stk.run 2 (fun t H n => t 139 = .sc (.bool true) ∧ t 142 = .sc (.bool x22) ∧ t 143 = .ssl (encs c97 a1) a1.length false ∧ t 144 = .sc (.int .i64 a3)) (fun J hJ => ?_) ?_
        · simp [-splice, f1, f3, f139, f142]
          exact hJ _ _ _ ⟨by simp [f139], by simp [f142], by simp [-splice, f1, f3, f139, f142], by simp [-splice, f1, f3, f139, f142]⟩
        clear f1 f3 f139 f142
        rintro t H n ⟨f139, f142, f143, f144⟩
        obtain ⟨x23, hx23, h⟩ := bnd h
        refine Stk.cv (g := 40) (args := [.ssl (encs c97 a1) a1.length false, .sc (.int .i64 a3)]) (args' := [.ssl (encs c97 a1) a1.length false, .sc (.int .i64 a3)]) (v := .sc (.bool x23)) [] (ok_R13_Has F _ _ _ hx23) (by simp [f139, f142, f143, f144]) rfl rfl (by simp [f139, f142, f143, f144]) (.cons (.free (freeL_encs fr97 _)) (.cons (.free (rfl)) (.nil))) (.inl ⟨rfl, rfl⟩) (fun t' ht' => ?_)
        refine Stk.gen (fun t H n => t 139 = .sc (.bool true) ∧ t 142 = .sc (.bool x22) ∧ t 145 = .sc (.bool x23)) ⟨by simp [ht', f139], by simp [ht', f142], by simp [ht']⟩ ?_
        clear f139 f142 f143 f144 ht' t'
        rintro t H n ⟨f139, f142, f145⟩
        refine Stk.run 2 (fun t H n => t 147 = .sc (.bool (x22 == x23))) (fun J hJ => ?_) ?_
        · simp [-splice, f139, f142, f145, eqM4]
          exact hJ _ _ _ (by simp [-splice, f139, f142, f145, eqM4])
        clear f139 f142 f145
        rintro t H n f147
        refine Stk.on ?_
        exact Stk.ln 0 (by decide) (hJ12 _ _ _ ⟨(x22 == x23), h, f147⟩)
      · rw [hb12] at f139
        replace h := cF hb12 h
        refine Stk.run 8 (fun t H n => t 147 = .sc (.bool false)) (fun J hJ => ?_) ?_
        · simp [-splice, f1, f3, f139]
          exact hJ _ _ _ (by simp [-splice, f1, f3, f139])
        clear f1 f3 f139
        rintro t H n f147
        refine Stk.on ?_
        exact Stk.ln 0 (by decide) (hJ12 _ _ _ ⟨false, h, f147⟩)
    clear h f1 f3 f139
    rintro t H n ⟨v21, h, f147⟩
    subst hK12
    refine Stk.run 1 (fun t H n => t 148 = .sc (.bool v21)) (fun J hJ => ?_) ?_
    · simp [-splice, f147]
      exact hJ _ _ _ (by simp [-splice, f147])
    clear f147
    rintro t H n f148
    obtain ⟨K13, hK13, h⟩ := jnd h
    refine Stk.jo 2 (fun t H n => ∃ v24 : Bool, K13 v24 = some r ∧ t 150 = .sc (.bool v24)) (fun J13 hJ13 => ?_) ?_
    · rcases Bool.eq_false_or_eq_true v21 with hb13 | hb13
      · rw [hb13] at f148
        replace h := cT hb13 h
        obtain ⟨x25, hx25, h⟩ := bnd h
        refine Stk.cv (g := 19) (args := []) (args' := []) (v := .sc (.bool x25)) [] (ok_L13_awake F  _ hx25) (by simp [f148]) rfl rfl (by simp [f148]) (.nil) (.inl ⟨rfl, rfl⟩) (fun t' ht' => ?_)
        refine Stk.gen (fun t H n => t 148 = .sc (.bool true) ∧ t 149 = .sc (.bool x25)) ⟨by simp [ht', f148], by simp [ht']⟩ ?_
        clear f148 ht' t'
        rintro t H n ⟨f148, f149⟩
        refine Stk.run 1 (fun t H n => t 150 = .sc (.bool x25)) (fun J hJ => ?_) ?_
        · simp [-splice, f148, f149]
          exact hJ _ _ _ (by simp [-splice, f148, f149])
        clear f148 f149
        rintro t H n f150
        refine Stk.on ?_
        exact Stk.ln 0 (by decide) (hJ13 _ _ _ ⟨x25, h, f150⟩)
      · rw [hb13] at f148
        replace h := cF hb13 h
        refine Stk.run 2 (fun t H n => t 150 = .sc (.bool false)) (fun J hJ => ?_) ?_
        · simp [-splice, f148]
          exact hJ _ _ _ (by simp [-splice, f148])
        clear f148
        rintro t H n f150
        refine Stk.on ?_
        exact Stk.ln 0 (by decide) (hJ13 _ _ _ ⟨false, h, f150⟩)
    clear h f148
    rintro t H n ⟨v24, h, f150⟩
    subst hK13
    refine Stk.run 1 (fun t H n => t 10 = .sc (.bool v24)) (fun J hJ => ?_) ?_
    · simp [-splice, f150]
      exact hJ _ _ _ (by simp [-splice, f150])
    clear f150
    rintro t H n f10
    refine Stk.on ?_
    refine Stk.rt ?_
    have hq := Option.some.inj h; subst hq
    exact (hr _ _ _ (.sc (.bool v24)) ([]) (by simp [f10]) (.inr (.inr (.free (rfl))))).1
end Go.Proofs.Ytfbkgjmpadknfaa.M
