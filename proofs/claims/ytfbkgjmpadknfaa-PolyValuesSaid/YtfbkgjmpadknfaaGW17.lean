/-
  The functions come to them.
-/
import Derived.Test.YtfbkgjmpadknfaaGM
namespace Go.Proofs.Ytfbkgjmpadknfaa.M
open Go.Proofs.YtfbkgjmpadknfaaW.Ah Go.Proofs.Ytfbkgjmpadknfaa
set_option linter.unusedVariables false
set_option linter.unusedSimpArgs false
set_option maxRecDepth 8000
attribute [local simp] T.t2 T.t4 List.range List.range.loop
attribute [-simp] appendAV fillAV
theorem ok_L13_product (F : Nat) (a0 : Int) (a1 : Int) (r : Int) (h : L13_product F a0 a1 = some r) : RunF Try.prog T.T 41 [.sc (.int .i64 a0), .sc (.int .i64 a1)] (.sc (.int .i64 r)) := by
  rw [L13_product] at h
  refine RunF.z Try.func41 rfl rfl rfl rfl rfl (fun C hr => ?_)
  refine Stk.gen (fun t H n => t 0 = .sc (.int .i64 a0) ∧ t 1 = .sc (.int .i64 a1)) ⟨by simp, by simp⟩ ?_
  rintro t H n ⟨f0, f1⟩
  refine Stk.sq ?_
  refine Stk.rg ?_
  refine Stk.run 1 (fun t H n => t 0 = .sc (.int .i64 a0) ∧ t 1 = .sc (.int .i64 a1)) (fun J hJ => ?_) ?_
  · simp [-splice, f0, f1]
    exact hJ _ _ _ ⟨by simp [f0], by simp [f1]⟩
  clear f0 f1
  rintro t H n ⟨f0, f1⟩
  refine Stk.on ?_
  refine Stk.sq ?_
  refine Stk.sq ?_
  refine Stk.rg ?_
  refine Stk.run 3 (fun t H n => t 0 = .sc (.int .i64 a0) ∧ t 1 = .sc (.int .i64 a1) ∧ t 7 = .sc (.bool (decide (0 < a0)))) (fun J hJ => ?_) ?_
  · simp [-splice, f0, f1]
    exact hJ _ _ _ ⟨by simp [f0], by simp [f1], by simp [-splice, f0, f1]⟩
  clear f0 f1
  rintro t H n ⟨f0, f1, f7⟩
  obtain ⟨K1, hK1, h⟩ := jnd h
  refine Stk.jo 5 (fun t H n => ∃ v1 : Bool, K1 v1 = some r ∧ t 0 = .sc (.int .i64 a0) ∧ t 1 = .sc (.int .i64 a1) ∧ t 12 = .sc (.bool v1)) (fun J1 hJ1 => ?_) ?_
  · rcases Bool.eq_false_or_eq_true (decide (0 < a0)) with hb1 | hb1
    · rw [hb1] at f7
      replace h := cT hb1 h
      obtain ⟨x2, hx2, h⟩ := bnd h
      obtain ⟨nx2, ex2⟩ := quoM_ok hx2
      refine Stk.run 5 (fun t H n => t 0 = .sc (.int .i64 a0) ∧ t 1 = .sc (.int .i64 a1) ∧ t 12 = .sc (.bool (decide (x2 < a1)))) (fun J hJ => ?_) ?_
      · simp [-splice, f0, f1, f7, nx2, ex2]
        exact hJ _ _ _ ⟨by simp [f0], by simp [f1], by simp [-splice, f0, f1, f7, nx2, ex2]⟩
      clear f0 f1 f7
      rintro t H n ⟨f0, f1, f12⟩
      refine Stk.on ?_
      exact Stk.ln 0 (by decide) (hJ1 _ _ _ ⟨(decide (x2 < a1)), h, f0, f1, f12⟩)
    · rw [hb1] at f7
      replace h := cF hb1 h
      refine Stk.run 5 (fun t H n => t 0 = .sc (.int .i64 a0) ∧ t 1 = .sc (.int .i64 a1) ∧ t 12 = .sc (.bool false)) (fun J hJ => ?_) ?_
      · simp [-splice, f0, f1, f7]
        exact hJ _ _ _ ⟨by simp [f0], by simp [f1], by simp [-splice, f0, f1, f7]⟩
      clear f0 f1 f7
      rintro t H n ⟨f0, f1, f12⟩
      refine Stk.on ?_
      exact Stk.ln 0 (by decide) (hJ1 _ _ _ ⟨false, h, f0, f1, f12⟩)
  clear h f0 f1 f7
  rintro t H n ⟨v1, h, f0, f1, f12⟩
  subst hK1
  refine Stk.on ?_
  refine Stk.cond v1 (by exact f12) (fun hb3 => ?_) (fun hb3 => ?_)
  · have h := cT hb3 h
    refine Stk.sq ?_
    refine Stk.rg ?_
    refine Stk.run 1 (fun t H n => t 4 = .sc (.int .i64 (-1))) (fun J hJ => ?_) ?_
    · simp [-splice, f0, f1, f12]
      exact hJ _ _ _ (by simp [-splice, f0, f1, f12])
    clear f0 f1 f12
    rintro t H n f4
    refine Stk.on ?_
    refine Stk.rt ?_
    have hq := Option.some.inj h; subst hq
    exact (hr _ _ _ (.sc (.int .i64 (-1))) ([]) (by simp [f4]) (.inr (.inr (.free (rfl))))).1
  · have h := cF hb3 h
    refine Stk.sk ?_
    refine Stk.sq ?_
    refine Stk.rg ?_
    refine Stk.run 4 (fun t H n => t 4 = .sc (.int .i64 (IntKind.i64.wrap (a0 * a1)))) (fun J hJ => ?_) ?_
    · simp [-splice, f0, f1, f12]
      exact hJ _ _ _ (by simp [-splice, f0, f1, f12])
    clear f0 f1 f12
    rintro t H n f4
    refine Stk.on ?_
    refine Stk.rt ?_
    have hq := Option.some.inj h; subst hq
    exact (hr _ _ _ (.sc (.int .i64 (IntKind.i64.wrap (a0 * a1)))) ([]) (by simp [f4]) (.inr (.inr (.free (rfl))))).1
end Go.Proofs.Ytfbkgjmpadknfaa.M
