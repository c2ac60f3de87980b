/-
  The functions come to them.
-/
import Derived.Test.YtfbkgjmpadknfaaGM
namespace Go.Proofs.Ytfbkgjmpadknfaa.M
open Go.Proofs.YtfbkgjmpadknfaaW.Ah Go.Proofs.Ytfbkgjmpadknfaa
set_option linter.unusedVariables false
set_option linter.unusedSimpArgs false
set_option maxRecDepth 8000
attribute [local simp] T.t2 T.t3 T.t4 T.t37 T.t95 T.t97 List.range List.range.loop
attribute [-simp] appendAV fillAV
theorem ok_R13_Same (F : Nat) (a0 : (List api_Term)) (a1 : (List api_Term)) (r : Bool) (h : R13_Same F a0 a1 = some r) : RunF Try.prog T.T 22 [.ssl (encs c97 a0) a0.length false, .ssl (encs c97 a1) a1.length false] (.sc (.bool r)) := by
  rw [R13_Same] at h
  refine RunF.z Try.func22 rfl rfl rfl rfl rfl (fun C hr => ?_)
  refine Stk.gen (fun t H n => t 0 = .ssl (encs c97 a0) a0.length false ∧ t 1 = .ssl (encs c97 a1) a1.length false) ⟨by simp, by simp⟩ ?_
  rintro t H n ⟨f0, f1⟩
  refine Stk.sq ?_
  refine Stk.rg ?_
  refine Stk.run 1 (fun t H n => t 0 = .ssl (encs c97 a0) a0.length false ∧ t 1 = .ssl (encs c97 a1) a1.length false) (fun J hJ => ?_) ?_
  · simp [-splice, f0, f1]
    exact hJ _ _ _ ⟨by simp [f0], by simp [f1]⟩
  clear f0 f1
  rintro t H n ⟨f0, f1⟩
  refine Stk.on ?_
  refine Stk.sq ?_
  refine Stk.sq ?_
  refine Stk.rg ?_
  refine Stk.run 5 (fun t H n => t 0 = .ssl (encs c97 a0) a0.length false ∧ t 1 = .ssl (encs c97 a1) a1.length false ∧ t 10 = .sc (.bool ((a0.length : Int) != (a1.length : Int)))) (fun J hJ => ?_) ?_
  · simp [-splice, f0, f1]
    exact hJ _ _ _ ⟨by simp [f0], by simp [f1], by simp [-splice, f0, f1]⟩
  clear f0 f1
  rintro t H n ⟨f0, f1, f10⟩
  refine Stk.on ?_
  refine Stk.cond ((a0.length : Int) != (a1.length : Int)) (by exact f10) (fun hb1 => ?_) (fun hb1 => ?_)
  · have h := cT hb1 h
    refine Stk.sq ?_
    refine Stk.rg ?_
    refine Stk.run 1 (fun t H n => t 4 = .sc (.bool false)) (fun J hJ => ?_) ?_
    · simp [-splice, f0, f1, f10]
      exact hJ _ _ _ (by simp [-splice, f0, f1, f10])
    clear f0 f1 f10
    rintro t H n f4
    refine Stk.on ?_
    refine Stk.rt ?_
    have hq := Option.some.inj h; subst hq
    exact (hr _ _ _ (.sc (.bool false)) ([]) (by simp [f4]) (.inr (.inr (.free (rfl))))).1
  · have h := cF hb1 h
    refine Stk.sk ?_
    refine Stk.sq ?_
    refine Stk.sq ?_
    refine Stk.rg ?_
    refine Stk.run 1 (fun t H n => t 0 = .ssl (encs c97 a0) a0.length false ∧ t 1 = .ssl (encs c97 a1) a1.length false ∧ t 5 = .sc (.int .i64 0)) (fun J hJ => ?_) ?_
    · simp [-splice, f0, f1, f10]
      exact hJ _ _ _ ⟨by simp [f0], by simp [f1], by simp [-splice, f0, f1, f10]⟩
    clear f0 f1 f10
    rintro t H n ⟨f0, f1, f5⟩
    refine Stk.on ?_
    refine Stk.bk ?_
    refine Stk.lo (fun μ t H n => ∃ v2 : Int, R13_Same_L0 F a0 a1 μ v2 = some r ∧ t 0 = .ssl (encs c97 a0) a0.length false ∧ t 1 = .ssl (encs c97 a1) a1.length false ∧ t 5 = .sc (.int .i64 v2)) F ⟨0, h, f0, f1, f5⟩ ?_
    clear h f0 f1 f5
    rintro J1 hJ1 μ t H n ⟨v2, h, f0, f1, f5⟩
    cases μ with
    | zero => exact absurd h (by simp [R13_Same_L0])
    | succ μ =>
    rw [R13_Same_L0] at h
    refine Stk.sq ?_
    refine Stk.sq ?_
    refine Stk.rg ?_
    refine Stk.run 4 (fun t H n => t 0 = .ssl (encs c97 a0) a0.length false ∧ t 1 = .ssl (encs c97 a1) a1.length false ∧ t 5 = .sc (.int .i64 v2) ∧ t 14 = .sc (.bool (decide (v2 < (a0.length : Int))))) (fun J hJ => ?_) ?_
    · simp [-splice, f0, f1, f5]
      exact hJ _ _ _ ⟨by simp [f0], by simp [f1], by simp [f5], by simp [-splice, f0, f1, f5]⟩
    clear f0 f1 f5
    rintro t H n ⟨f0, f1, f5, f14⟩
    refine Stk.on ?_
    refine Stk.cond (decide (v2 < (a0.length : Int))) (by exact f14) (fun hb4 => ?_) (fun hb4 => ?_)
    · have h := cT hb4 h
      refine Stk.sk ?_
      refine Stk.sq ?_
      refine Stk.bk ?_
      refine Stk.sq ?_
      obtain ⟨n0, hn0⟩ : ∃ m, m = n := ⟨n, rfl⟩
      have ln0 : n0 ≤ n := Nat.le_of_eq hn0
      refine Stk.rgD [.rd [], .rd [], .rd [], .rd [], .rd [], .rd [], .rd [], .rd [], .rd []] none (by kernel_rfl) (by rfl) rfl (by simp [below]) rfl ?_
      obtain ⟨x5, hx5, h⟩ := bnd h
      obtain ⟨i0x5, i1x5, i2x5, _⟩ := idx_ok hx5
      have ex5_0_97 : partOf T.T 97 (encs c97 a0) (v2.toNat * 13) = some (.agg (c97 x5)) := by
          have e0 := part_elem0 (e := c97) (z := 13) (T := T.T) (ty := 97) T.t97 (by decide) (by decide) hx5 0 (by decide)
          (try simp only [Nat.mul_one, Nat.add_zero] at e0)
          exact e0.trans (ld_97_0_97 _)
      obtain ⟨x6, hx6, h⟩ := bnd h
      obtain ⟨i0x6, i1x6, i2x6, _⟩ := idx_ok hx6
      have ex6_0_97 : partOf T.T 97 (encs c97 a1) (v2.toNat * 13) = some (.agg (c97 x6)) := by
          have e0 := part_elem0 (e := c97) (z := 13) (T := T.T) (ty := 97) T.t97 (by decide) (by decide) hx6 0 (by decide)
          (try simp only [Nat.mul_one, Nat.add_zero] at e0)
          exact e0.trans (ld_97_0_97 _)
      refine Stk.runD 9 (fun t H n => t 0 = .ssl (encs c97 a0) a0.length false ∧ t 1 = .ssl (encs c97 a1) a1.length false ∧ t 5 = .sc (.int .i64 v2) ∧ t 25 = .sc (.bool (!((x5.Exps.1 == x6.Exps.1) && ((x5.Coef == x6.Coef))))) ∧ n0 ≤ n) (fun J hJ => ?_) ?_
      · simp [-splice, f0, f1, f5, f14, i0x5, i1x5, pd97, ex5_0_97, i0x6, i1x6, ex6_0_97, eqM97]
        exact hJ _ _ _ ⟨by simp [f0], by simp [f1], by simp [f5], by simp [-splice, f0, f1, f5, f14, i0x5, i1x5, pd97, ex5_0_97, i0x6, i1x6, ex6_0_97, eqM97], ln0⟩
      clear f0 f1 f5 f14 ln0
      rintro t H n ⟨f0, f1, f5, f25, ln0⟩
      refine Stk.onD ?_
      refine Stk.cond (!((x5.Exps.1 == x6.Exps.1) && ((x5.Coef == x6.Coef)))) (by exact f25) (fun hb7 => ?_) (fun hb7 => ?_)
      · have h := cT hb7 h
        refine Stk.sq ?_
        refine Stk.rg ?_
        refine Stk.run 1 (fun t H n => t 4 = .sc (.bool false)) (fun J hJ => ?_) ?_
        · simp [-splice, f0, f1, f5, f25]
          exact hJ _ _ _ (by simp [-splice, f0, f1, f5, f25])
        clear f0 f1 f5 f25 ln0
        rintro t H n f4
        refine Stk.on ?_
        refine Stk.rt ?_
        have hq := Option.some.inj h; subst hq
        exact (hr _ _ _ (.sc (.bool false)) ([]) (by simp [f4]) (.inr (.inr (.free (rfl))))).1
      · have h := cF hb7 h
        refine Stk.sk ?_
        refine Stk.bn ?_
        refine Stk.rg ?_
        refine Stk.run 3 (fun t H n => t 0 = .ssl (encs c97 a0) a0.length false ∧ t 1 = .ssl (encs c97 a1) a1.length false ∧ t 5 = .sc (.int .i64 (IntKind.i64.wrap (v2 + 1)))) (fun J hJ => ?_) ?_
        · simp [-splice, f0, f1, f5, f25]
          exact hJ _ _ _ ⟨by simp [f0], by simp [f1], by simp [-splice, f0, f1, f5, f25]⟩
        clear f0 f1 f5 f25 ln0
        rintro t H n ⟨f0, f1, f5⟩
        refine Stk.on ?_
        exact Stk.ln μ (Nat.lt_succ_self _) (hJ1 _ _ _ _ ⟨(IntKind.i64.wrap (v2 + 1)), h, f0, f1, f5⟩)
    · have h := cF hb4 h
      refine Stk.ex rfl ?_
      refine Stk.sq ?_
      refine Stk.rg ?_
      refine Stk.run 1 (fun t H n => t 4 = .sc (.bool true)) (fun J hJ => ?_) ?_
      · simp [-splice, f0, f1, f5, f14]
        exact hJ _ _ _ (by simp [-splice, f0, f1, f5, f14])
      clear f0 f1 f5 f14
      rintro t H n f4
      refine Stk.on ?_
      refine Stk.rt ?_
      have hq := Option.some.inj h; subst hq
      exact (hr _ _ _ (.sc (.bool true)) ([]) (by simp [f4]) (.inr (.inr (.free (rfl))))).1
end Go.Proofs.Ytfbkgjmpadknfaa.M
