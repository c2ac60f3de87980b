/-
 The functions come to them.
-/
import Derived.Test.YtcdafogfmijcpaaFsM
import Derived.Test.YtcdafogfmijcpaaFsW2
import Derived.Test.YtcdafogfmijcpaaFsW3
import Derived.Test.YtcdafogfmijcpaaFsW4
namespace Go.Proofs.Ytcdafogfmijcpaa.M
open Go.Proofs.YtcdafogfmijcpaaW.Ah Go.Proofs.Ytcdafogfmijcpaa
set_option linter.unusedVariables false
set_option linter.unusedSimpArgs false
set_option maxRecDepth 8000
attribute [local simp] T.t3 T.t4 T.t22 T.t24 T.t26 T.t29 T.t30 T.t36 T.t39 T.t41 T.t42 T.t44 T.t47 List.range List.range.loop
attribute [-simp] appendAV fillAV
theorem ok_L21_FlowSteps (F : Nat) (a0 : api_Code) (r : Bool) (h : L21_FlowSteps F a0 = some r) : RunF Try.prog T.T 4 [.agg (c26 a0)] (.sc (.bool r)) := by
 rw [L21_FlowSteps] at h
 refine RunF.z Try.func4 rfl rfl rfl rfl rfl (fun C hr => ?_)
 refine Stk.gen (fun t H n => t 0 = .agg (c26 a0)) (by simp) ?_
 rintro t H n f0
 refine Stk.sq ?_
 refine Stk.rg ?_
 refine Stk.om (mop_box T.t26 (cs := c26 a0) (by show partOk (t 0) = true; rw [f0]; rfl) (by show cellsOf (t 0) = _; rw [f0]; rfl)) (by simp [f0]) rfl (fun t' ht' => ?_)
 refine Stk.gen (fun t H n => ∃ b1, t 1 = .own b1 0 ∧ H b1 = some (.cells (c26 a0) 26) ∧ b1 < n) ⟨n, by simp [ht'], upd_same _ _ _, Nat.lt_succ_self _⟩ ?_
 clear f0 ht' t'
 rintro t H n ⟨b1, f1, b_b1, l_b1⟩
 refine Stk.run 1 (fun t H n => t 1 = .own b1 0 ∧ H b1 = some (.cells (c26 a0) 26) ∧ b1 < n) (fun J hJ => ?_) ?_
 ·simp [-splice, f1, b_b1]
  exact hJ _ _ _ ⟨by simp [f1], b_b1, l_b1⟩
 clear f1 b_b1 l_b1
 rintro t H n ⟨f1, b_b1, l_b1⟩
 refine Stk.on ?_
 refine Stk.sq ?_
 refine Stk.sq ?_
 refine Stk.rg ?_
 refine Stk.run 1 (fun t H n => t 1 = .own b1 0 ∧ t 16 = .agg (c26 a0) ∧ H b1 = some (.cells (c26 a0) 26) ∧ b1 < n) (fun J hJ => ?_) ?_
 ·simp [-splice, f1, b_b1, ld_26_0_26]
  exact hJ _ _ _ ⟨by simp [f1], by simp [-splice, f1, b_b1, ld_26_0_26], b_b1, l_b1⟩
 clear f1 b_b1 l_b1
 rintro t H n ⟨f1, f16, b_b1, l_b1⟩
 obtain ⟨x2, hx2, h⟩ := bnd h
 refine Stk.cv (g := 6) (args := [.agg (c26 a0), .sc (.int .i64 2000)]) (args' := [.agg (c26 a0), .sc (.int .i64 2000)]) (v := .sc (.bool x2)) [] (ok_R20_Light F _ _ _ hx2) (by simp [f1, f16]) rfl rfl (by simp [f1, f16]) (.cons (.free (fr26 _)) (.cons (.free (rfl)) (.nil))) (.inl ⟨rfl, rfl⟩) (fun t' ht' => ?_)
 refine Stk.gen (fun t H n => t 1 = .own b1 0 ∧ t 17 = .sc (.bool x2) ∧ H b1 = some (.cells (c26 a0) 26) ∧ b1 < n) ⟨by simp [ht', f1], by simp [ht'], b_b1, l_b1⟩ ?_
 clear f1 f16 b_b1 l_b1 ht' t'
 rintro t H n ⟨f1, f17, b_b1, l_b1⟩
 refine Stk.run 1 (fun t H n => t 1 = .own b1 0 ∧ t 18 = .sc (.bool (!x2)) ∧ H b1 = some (.cells (c26 a0) 26) ∧ b1 < n) (fun J hJ => ?_) ?_
 ·simp [-splice, f1, f17, b_b1]
  exact hJ _ _ _ ⟨by simp [f1], by simp [-splice, f1, f17, b_b1], b_b1, l_b1⟩
 clear f1 f17 b_b1 l_b1
 rintro t H n ⟨f1, f18, b_b1, l_b1⟩
 refine Stk.on ?_
 refine Stk.cond (!x2) (by exact f18) (fun hb3 => ?_) (fun hb3 => ?_)
 ·have h := cT hb3 h
  refine Stk.sq ?_
  refine Stk.rg ?_
  obtain ⟨x4, hx4, h⟩ := bnd h
  refine Stk.cv (g := 7) (args := []) (args' := []) (v := .sc (.bool x4)) [] (ok_L21_awake F  _ hx4) (by simp [f1, f18]) rfl rfl (by simp [f1, f18]) (.nil) (.inl ⟨rfl, rfl⟩) (fun t' ht' => ?_)
  refine Stk.gen (fun t H n => t 19 = .sc (.bool x4)) (by simp [ht']) ?_
  clear f1 f18 b_b1 l_b1 ht' t'
  rintro t H n f19
  refine Stk.run 1 (fun t H n => t 2 = .sc (.bool x4)) (fun J hJ => ?_) ?_
  ·simp [-splice, f19]
   exact hJ _ _ _ (by simp [-splice, f19])
  clear f19
  rintro t H n f2
  refine Stk.on ?_
  refine Stk.rt ?_
  have hq := Option.some.inj h; subst hq
  exact (hr _ _ _ (.sc (.bool x4)) ([]) (by simp [f2]) (.inr (.inr (.free (rfl))))).1
 ·have h := cF hb3 h
  refine Stk.sk ?_
  refine Stk.sq ?_
  refine Stk.rg ?_
  refine Stk.run 1 (fun t H n => t 1 = .own b1 0 ∧ t 21 = .agg (c26 a0) ∧ H b1 = some (.cells (c26 a0) 26) ∧ b1 < n) (fun J hJ => ?_) ?_
  ·simp [-splice, f1, f18, b_b1, ld_26_0_26]
   exact hJ _ _ _ ⟨by simp [f1], by simp [-splice, f1, f18, b_b1, ld_26_0_26], b_b1, l_b1⟩
  clear f1 f18 b_b1 l_b1
  rintro t H n ⟨f1, f21, b_b1, l_b1⟩
  obtain ⟨x5, hx5, h⟩ := bnd h
  refine Stk.cv (g := 8) (args := [.agg (c26 a0)]) (args' := [.agg (c26 a0)]) (v := .tup [.ssl (encs c36 x5.1) x5.1.length false, .sc (.int .i64 x5.2)]) [] (ok_flow_Check F _ _ hx5) (by simp [f1, f21]) rfl rfl (by simp [f1, f21]) (.cons (.free (fr26 _)) (.nil)) (.inl ⟨rfl, by simp [free, freeL, freeL_encs fr36]⟩) (fun t' ht' => ?_)
  refine Stk.gen (fun t H n => t 1 = .own b1 0 ∧ t 22 = .tup [.ssl (encs c36 x5.1) x5.1.length false, .sc (.int .i64 x5.2)] ∧ H b1 = some (.cells (c26 a0) 26) ∧ b1 < n) ⟨by simp [ht', f1], by simp [ht'], b_b1, l_b1⟩ ?_
  clear f1 f21 b_b1 l_b1 ht' t'
  rintro t H n ⟨f1, f22, b_b1, l_b1⟩
  refine Stk.run 5 (fun t H n => t 1 = .own b1 0 ∧ t 3 = .ssl (encs c36 x5.1) x5.1.length false ∧ t 4 = .sc (.int .i64 x5.2) ∧ H b1 = some (.cells (c26 a0) 26) ∧ b1 < n) (fun J hJ => ?_) ?_
  ·simp [-splice, f1, f22, b_b1]
   exact hJ _ _ _ ⟨by simp [f1], by simp [-splice, f1, f22, b_b1], by simp [-splice, f1, f22, b_b1], b_b1, l_b1⟩
  clear f1 f22 b_b1 l_b1
  rintro t H n ⟨f1, f3, f4, b_b1, l_b1⟩
  refine Stk.on ?_
  refine Stk.sq ?_
  refine Stk.sq ?_
  refine Stk.rg ?_
  refine Stk.run 2 (fun t H n => t 1 = .own b1 0 ∧ t 3 = .ssl (encs c36 x5.1) x5.1.length false ∧ t 26 = .sc (.bool (x5.2 != 0)) ∧ H b1 = some (.cells (c26 a0) 26) ∧ b1 < n) (fun J hJ => ?_) ?_
  ·simp [-splice, f1, f3, f4, b_b1]
   exact hJ _ _ _ ⟨by simp [f1], by simp [f3], by simp [-splice, f1, f3, f4, b_b1], b_b1, l_b1⟩
  clear f1 f3 f4 b_b1 l_b1
  rintro t H n ⟨f1, f3, f26, b_b1, l_b1⟩
  refine Stk.on ?_
  refine Stk.cond (x5.2 != 0) (by exact f26) (fun hb6 => ?_) (fun hb6 => ?_)
  ·have h := cT hb6 h
   refine Stk.sq ?_
   refine Stk.rg ?_
   refine Stk.run 4 (fun t H n => t 30 = .sc (.bool ((x5.1.length : Int) == 0))) (fun J hJ => ?_) ?_
   ·simp [-splice, f1, f3, f26, b_b1]
    exact hJ _ _ _ (by simp [-splice, f1, f3, f26, b_b1])
   clear f1 f3 f26 b_b1 l_b1
   rintro t H n f30
   obtain ⟨K1, hK1, h⟩ := jnd h
   refine Stk.jo 2 (fun t H n => ∃ v7 : Bool, K1 v7 = some r ∧ t 32 = .sc (.bool v7)) (fun J1 hJ1 => ?_) ?_
   ·rcases Bool.eq_false_or_eq_true ((x5.1.length : Int) == 0) with hb1 | hb1
    ·rw [hb1] at f30
     replace h := cT hb1 h
     obtain ⟨x8, hx8, h⟩ := bnd h
     refine Stk.cv (g := 7) (args := []) (args' := []) (v := .sc (.bool x8)) [] (ok_L21_awake F  _ hx8) (by simp [f30]) rfl rfl (by simp [f30]) (.nil) (.inl ⟨rfl, rfl⟩) (fun t' ht' => ?_)
     refine Stk.gen (fun t H n => t 30 = .sc (.bool true) ∧ t 31 = .sc (.bool x8)) ⟨by simp [ht', f30], by simp [ht']⟩ ?_
     clear f30 ht' t'
     rintro t H n ⟨f30, f31⟩
     refine Stk.run 1 (fun t H n => t 32 = .sc (.bool x8)) (fun J hJ => ?_) ?_
     ·simp [-splice, f30, f31]
      exact hJ _ _ _ (by simp [-splice, f30, f31])
     clear f30 f31
     rintro t H n f32
     refine Stk.on ?_
     exact Stk.ln 0 (by decide) (hJ1 _ _ _ ⟨x8, h, f32⟩)
    ·rw [hb1] at f30
     replace h := cF hb1 h
     refine Stk.run 2 (fun t H n => t 32 = .sc (.bool false)) (fun J hJ => ?_) ?_
     ·simp [-splice, f30]
      exact hJ _ _ _ (by simp [-splice, f30])
     clear f30
     rintro t H n f32
     refine Stk.on ?_
     exact Stk.ln 0 (by decide) (hJ1 _ _ _ ⟨false, h, f32⟩)
   clear h f30
   rintro t H n ⟨v7, h, f32⟩
   subst hK1
   refine Stk.run 1 (fun t H n => t 2 = .sc (.bool v7)) (fun J hJ => ?_) ?_
   ·simp [-splice, f32]
    exact hJ _ _ _ (by simp [-splice, f32])
   clear f32
   rintro t H n f2
   refine Stk.on ?_
   refine Stk.rt ?_
   have hq := Option.some.inj h; subst hq
   exact (hr _ _ _ (.sc (.bool v7)) ([]) (by simp [f2]) (.inr (.inr (.free (rfl))))).1
  ·have h := cF hb6 h
   refine Stk.sk ?_
   refine Stk.sq ?_
   refine Stk.sq ?_
   refine Stk.rg ?_
   refine Stk.run 7 (fun t H n => t 1 = .own b1 0 ∧ t 3 = .ssl (encs c36 x5.1) x5.1.length false ∧ t 39 = .sc (.bool ((x5.1.length : Int) != (a0.Funs.length : Int))) ∧ H b1 = some (.cells (c26 a0) 26) ∧ b1 < n) (fun J hJ => ?_) ?_
   ·simp [-splice, f1, f3, f26, b_b1, ld_26_0_22]
    exact hJ _ _ _ ⟨by simp [f1], by simp [f3], by simp [-splice, f1, f3, f26, b_b1, ld_26_0_22], b_b1, l_b1⟩
   clear f1 f3 f26 b_b1 l_b1
   rintro t H n ⟨f1, f3, f39, b_b1, l_b1⟩
   obtain ⟨K2, hK2, h⟩ := jnd h
   refine Stk.jo 4 (fun t H n => ∃ v9 : Bool, K2 v9 = some r ∧ t 1 = .own b1 0 ∧ t 3 = .ssl (encs c36 x5.1) x5.1.length false ∧ t 43 = .sc (.bool v9) ∧ H b1 = some (.cells (c26 a0) 26) ∧ b1 < n) (fun J2 hJ2 => ?_) ?_
   ·rcases Bool.eq_false_or_eq_true ((x5.1.length : Int) != (a0.Funs.length : Int)) with hb2 | hb2
    ·rw [hb2] at f39
     replace h := cT hb2 h
     refine Stk.run 4 (fun t H n => t 1 = .own b1 0 ∧ t 3 = .ssl (encs c36 x5.1) x5.1.length false ∧ t 43 = .sc (.bool true) ∧ H b1 = some (.cells (c26 a0) 26) ∧ b1 < n) (fun J hJ => ?_) ?_
     ·simp [-splice, f1, f3, f39, b_b1]
      exact hJ _ _ _ ⟨by simp [f1], by simp [f3], by simp [-splice, f1, f3, f39, b_b1], b_b1, l_b1⟩
     clear f1 f3 f39 b_b1 l_b1
     rintro t H n ⟨f1, f3, f43, b_b1, l_b1⟩
     refine Stk.on ?_
     exact Stk.ln 0 (by decide) (hJ2 _ _ _ ⟨true, h, f1, f3, f43, b_b1, l_b1⟩)
    ·rw [hb2] at f39
     replace h := cF hb2 h
     refine Stk.run 1 (fun t H n => t 1 = .own b1 0 ∧ t 3 = .ssl (encs c36 x5.1) x5.1.length false ∧ t 39 = .sc (.bool false) ∧ t 40 = .agg (c26 a0) ∧ H b1 = some (.cells (c26 a0) 26) ∧ b1 < n) (fun J hJ => ?_) ?_
     ·simp [-splice, f1, f3, f39, b_b1, ld_26_0_26]
      exact hJ _ _ _ ⟨by simp [f1], by simp [f3], by simp [f39], by simp [-splice, f1, f3, f39, b_b1, ld_26_0_26], b_b1, l_b1⟩
     clear f1 f3 f39 b_b1 l_b1
     rintro t H n ⟨f1, f3, f39, f40, b_b1, l_b1⟩
     obtain ⟨x10, hx10, h⟩ := bnd h
     refine Stk.cv (g := 13) (args := [.agg (c26 a0)]) (args' := [.agg (c26 a0)]) (v := .sc (.bool x10)) [] (ok_R20_Fit F _ _ hx10) (by simp [f1, f3, f39, f40]) rfl rfl (by simp [f1, f3, f39, f40]) (.cons (.free (fr26 _)) (.nil)) (.inl ⟨rfl, rfl⟩) (fun t' ht' => ?_)
     refine Stk.gen (fun t H n => t 1 = .own b1 0 ∧ t 3 = .ssl (encs c36 x5.1) x5.1.length false ∧ t 39 = .sc (.bool false) ∧ t 41 = .sc (.bool x10) ∧ H b1 = some (.cells (c26 a0) 26) ∧ b1 < n) ⟨by simp [ht', f1], by simp [ht', f3], by simp [ht', f39], by simp [ht'], b_b1, l_b1⟩ ?_
     clear f1 f3 f39 f40 b_b1 l_b1 ht' t'
     rintro t H n ⟨f1, f3, f39, f41, b_b1, l_b1⟩
     refine Stk.run 2 (fun t H n => t 1 = .own b1 0 ∧ t 3 = .ssl (encs c36 x5.1) x5.1.length false ∧ t 43 = .sc (.bool (!x10)) ∧ H b1 = some (.cells (c26 a0) 26) ∧ b1 < n) (fun J hJ => ?_) ?_
     ·simp [-splice, f1, f3, f39, f41, b_b1]
      exact hJ _ _ _ ⟨by simp [f1], by simp [f3], by simp [-splice, f1, f3, f39, f41, b_b1], b_b1, l_b1⟩
     clear f1 f3 f39 f41 b_b1 l_b1
     rintro t H n ⟨f1, f3, f43, b_b1, l_b1⟩
     refine Stk.on ?_
     exact Stk.ln 0 (by decide) (hJ2 _ _ _ ⟨(!x10), h, f1, f3, f43, b_b1, l_b1⟩)
   clear h f1 f3 f39 b_b1 l_b1
   rintro t H n ⟨v9, h, f1, f3, f43, b_b1, l_b1⟩
   subst hK2
   refine Stk.on ?_
   refine Stk.cond v9 (by exact f43) (fun hb11 => ?_) (fun hb11 => ?_)
   ·have h := cT hb11 h
    refine Stk.sq ?_
    refine Stk.rg ?_
    refine Stk.run 1 (fun t H n => t 2 = .sc (.bool false)) (fun J hJ => ?_) ?_
    ·simp [-splice, f1, f3, f43, b_b1]
     exact hJ _ _ _ (by simp [-splice, f1, f3, f43, b_b1])
    clear f1 f3 f43 b_b1 l_b1
    rintro t H n f2
    refine Stk.on ?_
    refine Stk.rt ?_
    have hq := Option.some.inj h; subst hq
    exact (hr _ _ _ (.sc (.bool false)) ([]) (by simp [f2]) (.inr (.inr (.free (rfl))))).1
   ·have h := cF hb11 h
    refine Stk.sk ?_
    refine Stk.sq ?_
    refine Stk.sq ?_
    refine Stk.rg ?_
    refine Stk.run 4 (fun t H n => t 1 = .own b1 0 ∧ t 3 = .ssl (encs c36 x5.1) x5.1.length false ∧ t 45 = .ssl (encs c41 a0.Funs) a0.Funs.length false ∧ t 46 = .sc (.int .i64 (a0.Funs.length : Int)) ∧ t 47 = .sc (.int .i64 0) ∧ H b1 = some (.cells (c26 a0) 26) ∧ b1 < n) (fun J hJ => ?_) ?_
    ·simp [-splice, f1, f3, f43, b_b1, ld_26_0_22]
     exact hJ _ _ _ ⟨by simp [f1], by simp [f3], by simp [-splice, f1, f3, f43, b_b1, ld_26_0_22], by simp [-splice, f1, f3, f43, b_b1, ld_26_0_22], by simp [-splice, f1, f3, f43, b_b1, ld_26_0_22], b_b1, l_b1⟩
    clear f1 f3 f43 b_b1 l_b1
    rintro t H n ⟨f1, f3, f45, f46, f47, b_b1, l_b1⟩
    refine Stk.on ?_
    refine Stk.bk ?_
    refine Stk.lo (fun μ t H n => ∃ v12 : Int, L21_FlowSteps_L0 F a0 x5 μ v12 = some r ∧ t 1 = .own b1 0 ∧ t 3 = .ssl (encs c36 x5.1) x5.1.length false ∧ t 45 = .ssl (encs c41 a0.Funs) a0.Funs.length false ∧ t 46 = .sc (.int .i64 (a0.Funs.length : Int)) ∧ t 47 = .sc (.int .i64 v12) ∧ H b1 = some (.cells (c26 a0) 26) ∧ b1 < n) F ⟨0, h, f1, f3, f45, f46, f47, b_b1, l_b1⟩ ?_
    clear h f1 f3 f45 f46 f47 b_b1 l_b1
    rintro J3 hJ3 μ t H n ⟨v12, h, f1, f3, f45, f46, f47, b_b1, l_b1⟩
    cases μ with
    | zero => exact absurd h (by simp [L21_FlowSteps_L0])
    | succ μ =>
    rw [L21_FlowSteps_L0] at h
    refine Stk.sq ?_
    refine Stk.rg ?_
    refine Stk.run 1 (fun t H n => t 1 = .own b1 0 ∧ t 3 = .ssl (encs c36 x5.1) x5.1.length false ∧ t 45 = .ssl (encs c41 a0.Funs) a0.Funs.length false ∧ t 46 = .sc (.int .i64 (a0.Funs.length : Int)) ∧ t 47 = .sc (.int .i64 v12) ∧ t 48 = .sc (.bool (decide (v12 < (a0.Funs.length : Int)))) ∧ H b1 = some (.cells (c26 a0) 26) ∧ b1 < n) (fun J hJ => ?_) ?_
    ·simp [-splice, f1, f3, f45, f46, f47, b_b1]
     exact hJ _ _ _ ⟨by simp [f1], by simp [f3], by simp [f45], by simp [f46], by simp [f47], by simp [-splice, f1, f3, f45, f46, f47, b_b1], b_b1, l_b1⟩
    clear f1 f3 f45 f46 f47 b_b1 l_b1
    rintro t H n ⟨f1, f3, f45, f46, f47, f48, b_b1, l_b1⟩
    refine Stk.on ?_
    refine Stk.sq ?_
    refine Stk.cond (decide (v12 < (a0.Funs.length : Int))) (by exact f48) (fun hb14 => ?_) (fun hb14 => ?_)
    ·have h := cT hb14 h
     refine Stk.sk ?_
     refine Stk.sq ?_
     refine Stk.bk ?_
     refine Stk.sq ?_
     refine Stk.rg ?_
     obtain ⟨x15, hx15, h⟩ := bnd h
     obtain ⟨i0x15, i1x15, i2x15, _⟩ := idx_ok hx15
     have ex15_0_41 : partOf T.T 41 (encs c41 a0.Funs) (v12.toNat * 4) = some (.agg (c41 x15)) := by
       have e0 := part_elem0 (e := c41) (z := 4) (T := T.T) (ty := 41) T.t41 (by decide) (by decide) hx15 0 (by decide)
       (try simp only [Nat.mul_one, Nat.add_zero] at e0)
       exact e0.trans (ld_41_0_41 _)
     refine Stk.run 3 (fun t H n => t 1 = .own b1 0 ∧ t 3 = .ssl (encs c36 x5.1) x5.1.length false ∧ t 45 = .ssl (encs c41 a0.Funs) a0.Funs.length false ∧ t 46 = .sc (.int .i64 (a0.Funs.length : Int)) ∧ t 47 = .sc (.int .i64 v12) ∧ t 49 = .sc (.int .i64 v12) ∧ t 51 = .agg (c41 x15) ∧ H b1 = some (.cells (c26 a0) 26) ∧ b1 < n) (fun J hJ => ?_) ?_
     ·simp [-splice, f1, f3, f45, f46, f47, f48, b_b1, i0x15, i1x15, pd41, ex15_0_41]
      exact hJ _ _ _ ⟨by simp [f1], by simp [f3], by simp [f45], by simp [f46], by simp [f47], by simp [-splice, f1, f3, f45, f46, f47, f48, b_b1, i0x15, i1x15, pd41, ex15_0_41], by simp [-splice, f1, f3, f45, f46, f47, f48, b_b1, i0x15, i1x15, pd41, ex15_0_41], b_b1, l_b1⟩
     clear f1 f3 f45 f46 f47 f48 b_b1 l_b1
     rintro t H n ⟨f1, f3, f45, f46, f47, f49, f51, b_b1, l_b1⟩
     refine Stk.oz T.t41 (cs := c41 (api_Func.mk ⟨#[]⟩ 0 0 [])) (by rfl) rfl (by simp [f1, f3, f45, f46, f47, f49, f51]) rfl (fun t' ht' => ?_)
     refine Stk.gen (fun t H n => ∃ b16, t 1 = .own b1 0 ∧ t 3 = .ssl (encs c36 x5.1) x5.1.length false ∧ t 6 = .own b16 0 ∧ t 45 = .ssl (encs c41 a0.Funs) a0.Funs.length false ∧ t 46 = .sc (.int .i64 (a0.Funs.length : Int)) ∧ t 47 = .sc (.int .i64 v12) ∧ t 49 = .sc (.int .i64 v12) ∧ t 51 = .agg (c41 x15) ∧ H b1 = some (.cells (c26 a0) 26) ∧ b1 < n ∧ H b16 = some (.cells (c41 (api_Func.mk ⟨#[]⟩ 0 0 [])) 41) ∧ b16 < n ∧ b1 ≠ b16) ⟨n, by simp [ht', f1], by simp [ht', f3], by simp [ht'], by simp [ht', f45], by simp [ht', f46], by simp [ht', f47], by simp [ht', f49], by simp [ht', f51], (upd_ne _ _ (Nat.ne_of_lt l_b1)).trans b_b1, Nat.lt_succ_of_lt l_b1, upd_same _ _ _, Nat.lt_succ_self _, Nat.ne_of_lt l_b1⟩ ?_
     clear f1 f3 f45 f46 f47 f49 f51 b_b1 l_b1 ht' t'
     rintro t H n ⟨b16, f1, f3, f6, f45, f46, f47, f49, f51, b_b1, l_b1, b_b16, l_b16, d_b1_b16⟩
     refine Stk.run 1 (fun t H n => t 1 = .own b1 0 ∧ t 3 = .ssl (encs c36 x5.1) x5.1.length false ∧ t 5 = .sc (.int .i64 v12) ∧ t 6 = .own b16 0 ∧ t 45 = .ssl (encs c41 a0.Funs) a0.Funs.length false ∧ t 46 = .sc (.int .i64 (a0.Funs.length : Int)) ∧ t 47 = .sc (.int .i64 v12) ∧ t 51 = .agg (c41 x15) ∧ H b1 = some (.cells (c26 a0) 26) ∧ b1 < n ∧ H b16 = some (.cells (c41 (api_Func.mk ⟨#[]⟩ 0 0 [])) 41) ∧ b16 < n ∧ b1 ≠ b16) (fun J hJ => ?_) ?_
     ·simp [-splice, f1, f3, f6, f45, f46, f47, f49, f51, b_b1, b_b16]
      exact hJ _ _ _ ⟨by simp [f1], by simp [f3], by simp [-splice, f1, f3, f6, f45, f46, f47, f49, f51, b_b1, b_b16], by simp [f6], by simp [f45], by simp [f46], by simp [f47], by simp [f51], b_b1, l_b1, b_b16, l_b16, d_b1_b16⟩
     clear f1 f3 f6 f45 f46 f47 f49 f51 b_b1 l_b1 b_b16 l_b16 d_b1_b16
     rintro t H n ⟨f1, f3, f5, f6, f45, f46, f47, f51, b_b1, l_b1, b_b16, l_b16, d_b1_b16⟩
     refine Stk.om (mop_store (z := 4) rfl f6 b_b16 f51 (len41 _) (by rw [len41]; decide) (ok41 _) (st_41_0_41 _ _)) (by simp [f1, f3, f5, f6, f45, f46, f47, f51]) rfl (fun t' ht' => ?_)
     refine Stk.gen (fun t H n => t 1 = .own b1 0 ∧ t 3 = .ssl (encs c36 x5.1) x5.1.length false ∧ t 5 = .sc (.int .i64 v12) ∧ t 6 = .own b16 0 ∧ t 45 = .ssl (encs c41 a0.Funs) a0.Funs.length false ∧ t 46 = .sc (.int .i64 (a0.Funs.length : Int)) ∧ t 47 = .sc (.int .i64 v12) ∧ H b1 = some (.cells (c26 a0) 26) ∧ b1 < n ∧ H b16 = some (.cells (c41 x15) 41) ∧ b16 < n ∧ b1 ≠ b16) ⟨by simp [ht', f1], by simp [ht', f3], by simp [ht', f5], by simp [ht', f6], by simp [ht', f45], by simp [ht', f46], by simp [ht', f47], (upd_ne _ _ d_b1_b16).trans b_b1, l_b1, upd_same _ _ _, l_b16, d_b1_b16⟩ ?_
     clear f1 f3 f5 f6 f45 f46 f47 f51 b_b1 l_b1 b_b16 l_b16 d_b1_b16 ht' t'
     rintro t H n ⟨f1, f3, f5, f6, f45, f46, f47, b_b1, l_b1, b_b16, l_b16, d_b1_b16⟩
     refine Stk.on ?_
     refine Stk.sq ?_
     refine Stk.sq ?_
     obtain ⟨n0, hn0⟩ : ∃ m, m = n := ⟨n, rfl⟩
     have ln0 : n0 ≤ n := Nat.le_of_eq hn0
     refine Stk.rgD [.rd [], .rd [], .rd [], .rd [], .rd [], .rd [], .rd [b16], .rd [], .rd [], .rd [], .rd [], .rd [], .rd [], .rd [], .rd [], .rd [], .rd [], .rd [], .rd [b16], .rd [], .rd [], .rd [], .rd [], .rd [], .rd [], .rd [], .rd [], .rd [], .rd [b16], .rd [], .rd []] none (by kernel_rfl) (by rfl) rfl (by simp [below, hn0, l_b1, hn0, l_b16]) rfl ?_
     obtain ⟨x17, hx17, h⟩ := bnd h
     obtain ⟨i0x17, i1x17, i2x17, _⟩ := idx_ok hx17
     have ex17_0_36 : partOf T.T 36 (encs c36 x5.1) (v12.toNat) = some (.ssl (encs c42 x17) x17.length false) := by
       have e0 := part_elem0 (e := c36) (z := 1) (T := T.T) (ty := 36) T.t36 (by decide) (by decide) hx17 0 (by decide)
       (try simp only [Nat.mul_one, Nat.add_zero] at e0)
       exact e0.trans rfl
     refine Stk.runD 10 (fun t H n => t 1 = .own b1 0 ∧ t 3 = .ssl (encs c36 x5.1) x5.1.length false ∧ t 5 = .sc (.int .i64 v12) ∧ t 6 = .own b16 0 ∧ t 45 = .ssl (encs c41 a0.Funs) a0.Funs.length false ∧ t 46 = .sc (.int .i64 (a0.Funs.length : Int)) ∧ t 47 = .sc (.int .i64 v12) ∧ t 61 = .sc (.bool ((x17.length : Int) != (x15.Code.length : Int))) ∧ H b1 = some (.cells (c26 a0) 26) ∧ b1 < n ∧ H b16 = some (.cells (c41 x15) 41) ∧ b16 < n ∧ b1 ≠ b16 ∧ n0 ≤ n) (fun J hJ => ?_) ?_
     ·simp [-splice, f1, f3, f5, f6, f45, f46, f47, b_b1, b_b16, i0x17, i1x17, pd36, ex17_0_36, ld_41_3_39]
      exact hJ _ _ _ ⟨by simp [f1], by simp [f3], by simp [f5], by simp [f6], by simp [f45], by simp [f46], by simp [f47], by simp [-splice, f1, f3, f5, f6, f45, f46, f47, b_b1, b_b16, i0x17, i1x17, pd36, ex17_0_36, ld_41_3_39], b_b1, l_b1, b_b16, l_b16, d_b1_b16, ln0⟩
     clear f1 f3 f5 f6 f45 f46 f47 b_b1 l_b1 b_b16 l_b16 d_b1_b16 ln0
     rintro t H n ⟨f1, f3, f5, f6, f45, f46, f47, f61, b_b1, l_b1, b_b16, l_b16, d_b1_b16, ln0⟩
     obtain ⟨K4, hK4, h⟩ := jnd h
     refine Stk.jd 11 (fun t H n => ∃ v18 : Bool, K4 v18 = some r ∧ t 1 = .own b1 0 ∧ t 3 = .ssl (encs c36 x5.1) x5.1.length false ∧ t 5 = .sc (.int .i64 v12) ∧ t 6 = .own b16 0 ∧ t 45 = .ssl (encs c41 a0.Funs) a0.Funs.length false ∧ t 46 = .sc (.int .i64 (a0.Funs.length : Int)) ∧ t 47 = .sc (.int .i64 v12) ∧ t 72 = .sc (.bool v18) ∧ H b1 = some (.cells (c26 a0) 26) ∧ b1 < n ∧ H b16 = some (.cells (c41 x15) 41) ∧ b16 < n ∧ b1 ≠ b16) (fun J4 hJ4 => ?_) ?_
     ·rcases Bool.eq_false_or_eq_true ((x17.length : Int) != (x15.Code.length : Int)) with hb4 | hb4
      ·rw [hb4] at f61
       replace h := cT hb4 h
       refine Stk.runD 11 (fun t H n => t 1 = .own b1 0 ∧ t 3 = .ssl (encs c36 x5.1) x5.1.length false ∧ t 5 = .sc (.int .i64 v12) ∧ t 6 = .own b16 0 ∧ t 45 = .ssl (encs c41 a0.Funs) a0.Funs.length false ∧ t 46 = .sc (.int .i64 (a0.Funs.length : Int)) ∧ t 47 = .sc (.int .i64 v12) ∧ t 72 = .sc (.bool true) ∧ H b1 = some (.cells (c26 a0) 26) ∧ b1 < n ∧ H b16 = some (.cells (c41 x15) 41) ∧ b16 < n ∧ b1 ≠ b16 ∧ n0 ≤ n) (fun J hJ => ?_) ?_
       ·simp [-splice, f1, f3, f5, f6, f45, f46, f47, f61, b_b1, b_b16]
        exact hJ _ _ _ ⟨by simp [f1], by simp [f3], by simp [f5], by simp [f6], by simp [f45], by simp [f46], by simp [f47], by simp [-splice, f1, f3, f5, f6, f45, f46, f47, f61, b_b1, b_b16], b_b1, l_b1, b_b16, l_b16, d_b1_b16, ln0⟩
       clear f1 f3 f5 f6 f45 f46 f47 f61 b_b1 l_b1 b_b16 l_b16 d_b1_b16 ln0
       rintro t H n ⟨f1, f3, f5, f6, f45, f46, f47, f72, b_b1, l_b1, b_b16, l_b16, d_b1_b16, ln0⟩
       refine Stk.onD ?_
       exact Stk.ln 0 (by decide) (hJ4 _ _ _ ⟨true, h, f1, f3, f5, f6, f45, f46, f47, f72, b_b1, l_b1, b_b16, l_b16, d_b1_b16⟩)
      ·rw [hb4] at f61
       replace h := cF hb4 h
       obtain ⟨x19, hx19, h⟩ := bnd h
       obtain ⟨i0x19, i1x19, i2x19, _⟩ := idx_ok hx19
       have ex19_0_36 : partOf T.T 36 (encs c36 x5.1) (v12.toNat) = some (.ssl (encs c42 x19) x19.length false) := by
         have e0 := part_elem0 (e := c36) (z := 1) (T := T.T) (ty := 36) T.t36 (by decide) (by decide) hx19 0 (by decide)
         (try simp only [Nat.mul_one, Nat.add_zero] at e0)
         exact e0.trans rfl
       obtain ⟨x20, hx20, h⟩ := bnd h
       obtain ⟨i0x20, i1x20, i2x20, _⟩ := idx_ok hx20
       have i5x20 : 0 < x19.length := by omega
       have i6x20 : ¬ x19 = [] := List.ne_nil_of_length_pos i5x20
       have ex20_0_42 : partOf T.T 42 (encs c42 x19) 0 = some (.ssl (encs c4 x20) x20.length false) := by
         have e0 := part_elem0 (e := c42) (z := 1) (T := T.T) (ty := 42) T.t42 (by decide) (by decide) hx20 0 (by decide)
         (try simp only [Nat.mul_one, Nat.add_zero, Int.toNat_ofNat, Nat.zero_mul, Nat.zero_add] at e0)
         exact e0.trans rfl
       refine Stk.runD 11 (fun t H n => t 1 = .own b1 0 ∧ t 3 = .ssl (encs c36 x5.1) x5.1.length false ∧ t 5 = .sc (.int .i64 v12) ∧ t 6 = .own b16 0 ∧ t 45 = .ssl (encs c41 a0.Funs) a0.Funs.length false ∧ t 46 = .sc (.int .i64 (a0.Funs.length : Int)) ∧ t 47 = .sc (.int .i64 v12) ∧ t 72 = .sc (.bool ((x20.length : Int) != x15.Params)) ∧ H b1 = some (.cells (c26 a0) 26) ∧ b1 < n ∧ H b16 = some (.cells (c41 x15) 41) ∧ b16 < n ∧ b1 ≠ b16 ∧ n0 ≤ n) (fun J hJ => ?_) ?_
       ·simp [-splice, f1, f3, f5, f6, f45, f46, f47, f61, b_b1, b_b16, i0x19, i1x19, pd36, ex19_0_36, i0x20, i1x20, i5x20, i6x20, pd42, ex20_0_42, ld_41_1_3]
        exact hJ _ _ _ ⟨by simp [f1], by simp [f3], by simp [f5], by simp [f6], by simp [f45], by simp [f46], by simp [f47], by simp [-splice, f1, f3, f5, f6, f45, f46, f47, f61, b_b1, b_b16, i0x19, i1x19, pd36, ex19_0_36, i0x20, i1x20, i5x20, i6x20, pd42, ex20_0_42, ld_41_1_3], b_b1, l_b1, b_b16, l_b16, d_b1_b16, ln0⟩
       clear f1 f3 f5 f6 f45 f46 f47 f61 b_b1 l_b1 b_b16 l_b16 d_b1_b16 ln0
       rintro t H n ⟨f1, f3, f5, f6, f45, f46, f47, f72, b_b1, l_b1, b_b16, l_b16, d_b1_b16, ln0⟩
       refine Stk.onD ?_
       exact Stk.ln 0 (by decide) (hJ4 _ _ _ ⟨((x20.length : Int) != x15.Params), h, f1, f3, f5, f6, f45, f46, f47, f72, b_b1, l_b1, b_b16, l_b16, d_b1_b16⟩)
     clear h f1 f3 f5 f6 f45 f46 f47 f61 b_b1 l_b1 b_b16 l_b16 d_b1_b16 ln0
     rintro t H n ⟨v18, h, f1, f3, f5, f6, f45, f46, f47, f72, b_b1, l_b1, b_b16, l_b16, d_b1_b16⟩
     subst hK4
     refine Stk.runD 1 (fun t H n => t 1 = .own b1 0 ∧ t 3 = .ssl (encs c36 x5.1) x5.1.length false ∧ t 5 = .sc (.int .i64 v12) ∧ t 6 = .own b16 0 ∧ t 45 = .ssl (encs c41 a0.Funs) a0.Funs.length false ∧ t 46 = .sc (.int .i64 (a0.Funs.length : Int)) ∧ t 47 = .sc (.int .i64 v12) ∧ t 73 = .sc (.bool v18) ∧ H b1 = some (.cells (c26 a0) 26) ∧ b1 < n ∧ H b16 = some (.cells (c41 x15) 41) ∧ b16 < n ∧ b1 ≠ b16) (fun J hJ => ?_) ?_
     ·simp [-splice, f1, f3, f5, f6, f45, f46, f47, f72, b_b1, b_b16]
      exact hJ _ _ _ ⟨by simp [f1], by simp [f3], by simp [f5], by simp [f6], by simp [f45], by simp [f46], by simp [f47], by simp [-splice, f1, f3, f5, f6, f45, f46, f47, f72, b_b1, b_b16], b_b1, l_b1, b_b16, l_b16, d_b1_b16⟩
     clear f1 f3 f5 f6 f45 f46 f47 f72 b_b1 l_b1 b_b16 l_b16 d_b1_b16
     rintro t H n ⟨f1, f3, f5, f6, f45, f46, f47, f73, b_b1, l_b1, b_b16, l_b16, d_b1_b16⟩
     obtain ⟨K5, hK5, h⟩ := jnd h
     refine Stk.jd 9 (fun t H n => ∃ v21 : Bool, K5 v21 = some r ∧ t 1 = .own b1 0 ∧ t 3 = .ssl (encs c36 x5.1) x5.1.length false ∧ t 5 = .sc (.int .i64 v12) ∧ t 6 = .own b16 0 ∧ t 45 = .ssl (encs c41 a0.Funs) a0.Funs.length false ∧ t 46 = .sc (.int .i64 (a0.Funs.length : Int)) ∧ t 47 = .sc (.int .i64 v12) ∧ t 82 = .sc (.bool v21) ∧ H b1 = some (.cells (c26 a0) 26) ∧ b1 < n ∧ H b16 = some (.cells (c41 x15) 41) ∧ b16 < n ∧ b1 ≠ b16) (fun J5 hJ5 => ?_) ?_
     ·rcases Bool.eq_false_or_eq_true v18 with hb5 | hb5
      ·rw [hb5] at f73
       replace h := cT hb5 h
       refine Stk.runD 9 (fun t H n => t 1 = .own b1 0 ∧ t 3 = .ssl (encs c36 x5.1) x5.1.length false ∧ t 5 = .sc (.int .i64 v12) ∧ t 6 = .own b16 0 ∧ t 45 = .ssl (encs c41 a0.Funs) a0.Funs.length false ∧ t 46 = .sc (.int .i64 (a0.Funs.length : Int)) ∧ t 47 = .sc (.int .i64 v12) ∧ t 82 = .sc (.bool true) ∧ H b1 = some (.cells (c26 a0) 26) ∧ b1 < n ∧ H b16 = some (.cells (c41 x15) 41) ∧ b16 < n ∧ b1 ≠ b16) (fun J hJ => ?_) ?_
       ·simp [-splice, f1, f3, f5, f6, f45, f46, f47, f73, b_b1, b_b16]
        exact hJ _ _ _ ⟨by simp [f1], by simp [f3], by simp [f5], by simp [f6], by simp [f45], by simp [f46], by simp [f47], by simp [-splice, f1, f3, f5, f6, f45, f46, f47, f73, b_b1, b_b16], b_b1, l_b1, b_b16, l_b16, d_b1_b16⟩
       clear f1 f3 f5 f6 f45 f46 f47 f73 b_b1 l_b1 b_b16 l_b16 d_b1_b16
       rintro t H n ⟨f1, f3, f5, f6, f45, f46, f47, f82, b_b1, l_b1, b_b16, l_b16, d_b1_b16⟩
       refine Stk.onD ?_
       exact Stk.ln 0 (by decide) (hJ5 _ _ _ ⟨true, h, f1, f3, f5, f6, f45, f46, f47, f82, b_b1, l_b1, b_b16, l_b16, d_b1_b16⟩)
      ·rw [hb5] at f73
       replace h := cF hb5 h
       obtain ⟨x22, hx22, h⟩ := bnd h
       obtain ⟨i0x22, i1x22, i2x22, _⟩ := idx_ok hx22
       have ex22_0_36 : partOf T.T 36 (encs c36 x5.1) (v12.toNat) = some (.ssl (encs c42 x22) x22.length false) := by
         have e0 := part_elem0 (e := c36) (z := 1) (T := T.T) (ty := 36) T.t36 (by decide) (by decide) hx22 0 (by decide)
         (try simp only [Nat.mul_one, Nat.add_zero] at e0)
         exact e0.trans rfl
       refine Stk.runD 4 (fun t H n => t 1 = .own b1 0 ∧ t 3 = .ssl (encs c36 x5.1) x5.1.length false ∧ t 5 = .sc (.int .i64 v12) ∧ t 6 = .own b16 0 ∧ t 45 = .ssl (encs c41 a0.Funs) a0.Funs.length false ∧ t 46 = .sc (.int .i64 (a0.Funs.length : Int)) ∧ t 47 = .sc (.int .i64 v12) ∧ t 73 = .sc (.bool false) ∧ t 77 = .ssl (encs c42 x22) x22.length false ∧ H b1 = some (.cells (c26 a0) 26) ∧ b1 < n ∧ H b16 = some (.cells (c41 x15) 41) ∧ b16 < n ∧ b1 ≠ b16) (fun J hJ => ?_) ?_
       ·simp [-splice, f1, f3, f5, f6, f45, f46, f47, f73, b_b1, b_b16, i0x22, i1x22, pd36, ex22_0_36]
        exact hJ _ _ _ ⟨by simp [f1], by simp [f3], by simp [f5], by simp [f6], by simp [f45], by simp [f46], by simp [f47], by simp [f73], by simp [-splice, f1, f3, f5, f6, f45, f46, f47, f73, b_b1, b_b16, i0x22, i1x22, pd36, ex22_0_36], b_b1, l_b1, b_b16, l_b16, d_b1_b16⟩
       clear f1 f3 f5 f6 f45 f46 f47 f73 b_b1 l_b1 b_b16 l_b16 d_b1_b16
       rintro t H n ⟨f1, f3, f5, f6, f45, f46, f47, f73, f77, b_b1, l_b1, b_b16, l_b16, d_b1_b16⟩
       obtain ⟨x23, hx23, h⟩ := bnd h
       refine Stk.cvD (g := 11) (args := [.ssl (encs c42 x22) x22.length false]) (args' := [.ssl (encs c42 x22) x22.length false]) (v := .sc (.int .i64 x23)) [] (ok_flow_Height F _ _ hx23) rfl (by simp) rfl (by simp [f1, f3, f5, f6, f45, f46, f47, f73, f77]) rfl rfl (by simp [f1, f3, f5, f6, f45, f46, f47, f73, f77]) (.cons (.free (freeL_encs fr42 _)) (.nil)) (.inl ⟨rfl, rfl⟩) (fun t' ht' => ?_)
       refine Stk.gen (fun t H n => t 1 = .own b1 0 ∧ t 3 = .ssl (encs c36 x5.1) x5.1.length false ∧ t 5 = .sc (.int .i64 v12) ∧ t 6 = .own b16 0 ∧ t 45 = .ssl (encs c41 a0.Funs) a0.Funs.length false ∧ t 46 = .sc (.int .i64 (a0.Funs.length : Int)) ∧ t 47 = .sc (.int .i64 v12) ∧ t 73 = .sc (.bool false) ∧ t 78 = .sc (.int .i64 x23) ∧ H b1 = some (.cells (c26 a0) 26) ∧ b1 < n ∧ H b16 = some (.cells (c41 x15) 41) ∧ b16 < n ∧ b1 ≠ b16) ⟨by simp [ht', f1], by simp [ht', f3], by simp [ht', f5], by simp [ht', f6], by simp [ht', f45], by simp [ht', f46], by simp [ht', f47], by simp [ht', f73], by simp [ht'], b_b1, l_b1, b_b16, l_b16, d_b1_b16⟩ ?_
       clear f1 f3 f5 f6 f45 f46 f47 f73 f77 b_b1 l_b1 b_b16 l_b16 d_b1_b16 ht' t'
       rintro t H n ⟨f1, f3, f5, f6, f45, f46, f47, f73, f78, b_b1, l_b1, b_b16, l_b16, d_b1_b16⟩
       refine Stk.runD 4 (fun t H n => t 1 = .own b1 0 ∧ t 3 = .ssl (encs c36 x5.1) x5.1.length false ∧ t 5 = .sc (.int .i64 v12) ∧ t 6 = .own b16 0 ∧ t 45 = .ssl (encs c41 a0.Funs) a0.Funs.length false ∧ t 46 = .sc (.int .i64 (a0.Funs.length : Int)) ∧ t 47 = .sc (.int .i64 v12) ∧ t 82 = .sc (.bool (decide (x15.Slots < x23))) ∧ H b1 = some (.cells (c26 a0) 26) ∧ b1 < n ∧ H b16 = some (.cells (c41 x15) 41) ∧ b16 < n ∧ b1 ≠ b16) (fun J hJ => ?_) ?_
       ·simp [-splice, f1, f3, f5, f6, f45, f46, f47, f73, f78, b_b1, b_b16, ld_41_2_3]
        exact hJ _ _ _ ⟨by simp [f1], by simp [f3], by simp [f5], by simp [f6], by simp [f45], by simp [f46], by simp [f47], by simp [-splice, f1, f3, f5, f6, f45, f46, f47, f73, f78, b_b1, b_b16, ld_41_2_3], b_b1, l_b1, b_b16, l_b16, d_b1_b16⟩
       clear f1 f3 f5 f6 f45 f46 f47 f73 f78 b_b1 l_b1 b_b16 l_b16 d_b1_b16
       rintro t H n ⟨f1, f3, f5, f6, f45, f46, f47, f82, b_b1, l_b1, b_b16, l_b16, d_b1_b16⟩
       refine Stk.onD ?_
       exact Stk.ln 0 (by decide) (hJ5 _ _ _ ⟨(decide (x15.Slots < x23)), h, f1, f3, f5, f6, f45, f46, f47, f82, b_b1, l_b1, b_b16, l_b16, d_b1_b16⟩)
     clear h f1 f3 f5 f6 f45 f46 f47 f73 b_b1 l_b1 b_b16 l_b16 d_b1_b16
     rintro t H n ⟨v21, h, f1, f3, f5, f6, f45, f46, f47, f82, b_b1, l_b1, b_b16, l_b16, d_b1_b16⟩
     subst hK5
     refine Stk.onD ?_
     refine Stk.cond v21 (by exact f82) (fun hb24 => ?_) (fun hb24 => ?_)
     ·have h := cT hb24 h
      refine Stk.sq ?_
      refine Stk.rg ?_
      refine Stk.run 1 (fun t H n => t 2 = .sc (.bool false)) (fun J hJ => ?_) ?_
      ·simp [-splice, f1, f3, f5, f6, f45, f46, f47, f82, b_b1, b_b16]
       exact hJ _ _ _ (by simp [-splice, f1, f3, f5, f6, f45, f46, f47, f82, b_b1, b_b16])
      clear f1 f3 f5 f6 f45 f46 f47 f82 b_b1 l_b1 b_b16 l_b16 d_b1_b16
      rintro t H n f2
      refine Stk.on ?_
      refine Stk.rt ?_
      have hq := Option.some.inj h; subst hq
      exact (hr _ _ _ (.sc (.bool false)) ([]) (by simp [f2]) (.inr (.inr (.free (rfl))))).1
     ·have h := cF hb24 h
      refine Stk.sk ?_
      refine Stk.sq ?_
      refine Stk.rg ?_
      refine Stk.run 4 (fun t H n => t 1 = .own b1 0 ∧ t 3 = .ssl (encs c36 x5.1) x5.1.length false ∧ t 5 = .sc (.int .i64 v12) ∧ t 6 = .own b16 0 ∧ t 45 = .ssl (encs c41 a0.Funs) a0.Funs.length false ∧ t 46 = .sc (.int .i64 (a0.Funs.length : Int)) ∧ t 47 = .sc (.int .i64 v12) ∧ t 84 = .ssl (encs c44 x15.Code) x15.Code.length false ∧ t 85 = .sc (.int .i64 (x15.Code.length : Int)) ∧ t 86 = .sc (.int .i64 0) ∧ H b1 = some (.cells (c26 a0) 26) ∧ b1 < n ∧ H b16 = some (.cells (c41 x15) 41) ∧ b16 < n ∧ b1 ≠ b16) (fun J hJ => ?_) ?_
      ·simp [-splice, f1, f3, f5, f6, f45, f46, f47, f82, b_b1, b_b16, ld_41_3_39]
       exact hJ _ _ _ ⟨by simp [f1], by simp [f3], by simp [f5], by simp [f6], by simp [f45], by simp [f46], by simp [f47], by simp [-splice, f1, f3, f5, f6, f45, f46, f47, f82, b_b1, b_b16, ld_41_3_39], by simp [-splice, f1, f3, f5, f6, f45, f46, f47, f82, b_b1, b_b16, ld_41_3_39], by simp [-splice, f1, f3, f5, f6, f45, f46, f47, f82, b_b1, b_b16, ld_41_3_39], b_b1, l_b1, b_b16, l_b16, d_b1_b16⟩
      clear f1 f3 f5 f6 f45 f46 f47 f82 b_b1 l_b1 b_b16 l_b16 d_b1_b16
      rintro t H n ⟨f1, f3, f5, f6, f45, f46, f47, f84, f85, f86, b_b1, l_b1, b_b16, l_b16, d_b1_b16⟩
      refine Stk.on ?_
      obtain ⟨K6, hK6, h⟩ := jnd h
      refine Stk.jn (fun t H n => K6 () = some r ∧ t 1 = .own b1 0 ∧ t 3 = .ssl (encs c36 x5.1) x5.1.length false ∧ t 45 = .ssl (encs c41 a0.Funs) a0.Funs.length false ∧ t 46 = .sc (.int .i64 (a0.Funs.length : Int)) ∧ t 47 = .sc (.int .i64 v12) ∧ H b1 = some (.cells (c26 a0) 26) ∧ b1 < n) trivial (fun J6 hJ6 => ?_) ?_
      ·skip
       refine Stk.bk ?_
       refine Stk.lo (fun μ t H n => ∃ v25 : Int, L21_FlowSteps_L1 F a0 x5 v12 x15 K6 μ v25 = some r ∧ t 1 = .own b1 0 ∧ t 3 = .ssl (encs c36 x5.1) x5.1.length false ∧ t 5 = .sc (.int .i64 v12) ∧ t 6 = .own b16 0 ∧ t 45 = .ssl (encs c41 a0.Funs) a0.Funs.length false ∧ t 46 = .sc (.int .i64 (a0.Funs.length : Int)) ∧ t 47 = .sc (.int .i64 v12) ∧ t 84 = .ssl (encs c44 x15.Code) x15.Code.length false ∧ t 85 = .sc (.int .i64 (x15.Code.length : Int)) ∧ t 86 = .sc (.int .i64 v25) ∧ H b1 = some (.cells (c26 a0) 26) ∧ b1 < n ∧ H b16 = some (.cells (c41 x15) 41) ∧ b16 < n ∧ b1 ≠ b16) F ⟨0, h, f1, f3, f5, f6, f45, f46, f47, f84, f85, f86, b_b1, l_b1, b_b16, l_b16, d_b1_b16⟩ ?_
       clear h f1 f3 f5 f6 f45 f46 f47 f84 f85 f86 b_b1 l_b1 b_b16 l_b16 d_b1_b16
       rintro J7 hJ7 μ t H n ⟨v25, h, f1, f3, f5, f6, f45, f46, f47, f84, f85, f86, b_b1, l_b1, b_b16, l_b16, d_b1_b16⟩
       cases μ with
       | zero => exact absurd h (by simp [L21_FlowSteps_L1])
       | succ μ =>
       rw [L21_FlowSteps_L1] at h
       refine Stk.sq ?_
       refine Stk.rg ?_
       refine Stk.run 1 (fun t H n => t 1 = .own b1 0 ∧ t 3 = .ssl (encs c36 x5.1) x5.1.length false ∧ t 5 = .sc (.int .i64 v12) ∧ t 6 = .own b16 0 ∧ t 45 = .ssl (encs c41 a0.Funs) a0.Funs.length false ∧ t 46 = .sc (.int .i64 (a0.Funs.length : Int)) ∧ t 47 = .sc (.int .i64 v12) ∧ t 84 = .ssl (encs c44 x15.Code) x15.Code.length false ∧ t 85 = .sc (.int .i64 (x15.Code.length : Int)) ∧ t 86 = .sc (.int .i64 v25) ∧ t 87 = .sc (.bool (decide (v25 < (x15.Code.length : Int)))) ∧ H b1 = some (.cells (c26 a0) 26) ∧ b1 < n ∧ H b16 = some (.cells (c41 x15) 41) ∧ b16 < n ∧ b1 ≠ b16) (fun J hJ => ?_) ?_
       ·simp [-splice, f1, f3, f5, f6, f45, f46, f47, f84, f85, f86, b_b1, b_b16]
        exact hJ _ _ _ ⟨by simp [f1], by simp [f3], by simp [f5], by simp [f6], by simp [f45], by simp [f46], by simp [f47], by simp [f84], by simp [f85], by simp [f86], by simp [-splice, f1, f3, f5, f6, f45, f46, f47, f84, f85, f86, b_b1, b_b16], b_b1, l_b1, b_b16, l_b16, d_b1_b16⟩
       clear f1 f3 f5 f6 f45 f46 f47 f84 f85 f86 b_b1 l_b1 b_b16 l_b16 d_b1_b16
       rintro t H n ⟨f1, f3, f5, f6, f45, f46, f47, f84, f85, f86, f87, b_b1, l_b1, b_b16, l_b16, d_b1_b16⟩
       refine Stk.on ?_
       refine Stk.sq ?_
       refine Stk.cond (decide (v25 < (x15.Code.length : Int))) (by exact f87) (fun hb27 => ?_) (fun hb27 => ?_)
       ·have h := cT hb27 h
        refine Stk.sk ?_
        refine Stk.sq ?_
        refine Stk.bk ?_
        refine Stk.sq ?_
        refine Stk.rg ?_
        obtain ⟨x28, hx28, h⟩ := bnd h
        obtain ⟨i0x28, i1x28, i2x28, _⟩ := idx_ok hx28
        have ex28_0_44 : partOf T.T 44 (encs c44 x15.Code) (v25.toNat * 4) = some (.agg (c44 x28)) := by
          have e0 := part_elem0 (e := c44) (z := 4) (T := T.T) (ty := 44) T.t44 (by decide) (by decide) hx28 0 (by decide)
          (try simp only [Nat.mul_one, Nat.add_zero] at e0)
          exact e0.trans (ld_44_0_44 _)
        refine Stk.run 3 (fun t H n => t 1 = .own b1 0 ∧ t 3 = .ssl (encs c36 x5.1) x5.1.length false ∧ t 5 = .sc (.int .i64 v12) ∧ t 6 = .own b16 0 ∧ t 45 = .ssl (encs c41 a0.Funs) a0.Funs.length false ∧ t 46 = .sc (.int .i64 (a0.Funs.length : Int)) ∧ t 47 = .sc (.int .i64 v12) ∧ t 84 = .ssl (encs c44 x15.Code) x15.Code.length false ∧ t 85 = .sc (.int .i64 (x15.Code.length : Int)) ∧ t 86 = .sc (.int .i64 v25) ∧ t 88 = .sc (.int .i64 v25) ∧ t 90 = .agg (c44 x28) ∧ H b1 = some (.cells (c26 a0) 26) ∧ b1 < n ∧ H b16 = some (.cells (c41 x15) 41) ∧ b16 < n ∧ b1 ≠ b16) (fun J hJ => ?_) ?_
        ·simp [-splice, f1, f3, f5, f6, f45, f46, f47, f84, f85, f86, f87, b_b1, b_b16, i0x28, i1x28, pd44, ex28_0_44]
         exact hJ _ _ _ ⟨by simp [f1], by simp [f3], by simp [f5], by simp [f6], by simp [f45], by simp [f46], by simp [f47], by simp [f84], by simp [f85], by simp [f86], by simp [-splice, f1, f3, f5, f6, f45, f46, f47, f84, f85, f86, f87, b_b1, b_b16, i0x28, i1x28, pd44, ex28_0_44], by simp [-splice, f1, f3, f5, f6, f45, f46, f47, f84, f85, f86, f87, b_b1, b_b16, i0x28, i1x28, pd44, ex28_0_44], b_b1, l_b1, b_b16, l_b16, d_b1_b16⟩
        clear f1 f3 f5 f6 f45 f46 f47 f84 f85 f86 f87 b_b1 l_b1 b_b16 l_b16 d_b1_b16
        rintro t H n ⟨f1, f3, f5, f6, f45, f46, f47, f84, f85, f86, f88, f90, b_b1, l_b1, b_b16, l_b16, d_b1_b16⟩
        refine Stk.om (mop_alloc T.t44 (cs := c44 (api_Inst.mk 0 0 0 0)) rfl) (by simp [f1, f3, f5, f6, f45, f46, f47, f84, f85, f86, f88, f90]) rfl (fun t' ht' => ?_)
        refine Stk.gen (fun t H n => ∃ b29, t 1 = .own b1 0 ∧ t 3 = .ssl (encs c36 x5.1) x5.1.length false ∧ t 5 = .sc (.int .i64 v12) ∧ t 6 = .own b16 0 ∧ t 8 = .own b29 0 ∧ t 45 = .ssl (encs c41 a0.Funs) a0.Funs.length false ∧ t 46 = .sc (.int .i64 (a0.Funs.length : Int)) ∧ t 47 = .sc (.int .i64 v12) ∧ t 84 = .ssl (encs c44 x15.Code) x15.Code.length false ∧ t 85 = .sc (.int .i64 (x15.Code.length : Int)) ∧ t 86 = .sc (.int .i64 v25) ∧ t 88 = .sc (.int .i64 v25) ∧ t 90 = .agg (c44 x28) ∧ H b1 = some (.cells (c26 a0) 26) ∧ b1 < n ∧ H b16 = some (.cells (c41 x15) 41) ∧ b16 < n ∧ H b29 = some (.cells (c44 (api_Inst.mk 0 0 0 0)) 44) ∧ b29 < n ∧ b1 ≠ b16 ∧ b1 ≠ b29 ∧ b16 ≠ b29) ⟨n, by simp [ht', f1], by simp [ht', f3], by simp [ht', f5], by simp [ht', f6], by simp [ht'], by simp [ht', f45], by simp [ht', f46], by simp [ht', f47], by simp [ht', f84], by simp [ht', f85], by simp [ht', f86], by simp [ht', f88], by simp [ht', f90], (upd_ne _ _ (Nat.ne_of_lt l_b1)).trans b_b1, Nat.lt_succ_of_lt l_b1, (upd_ne _ _ (Nat.ne_of_lt l_b16)).trans b_b16, Nat.lt_succ_of_lt l_b16, upd_same _ _ _, Nat.lt_succ_self _, d_b1_b16, Nat.ne_of_lt l_b1, Nat.ne_of_lt l_b16⟩ ?_
        clear f1 f3 f5 f6 f45 f46 f47 f84 f85 f86 f88 f90 b_b1 l_b1 b_b16 l_b16 d_b1_b16 ht' t'
        rintro t H n ⟨b29, f1, f3, f5, f6, f8, f45, f46, f47, f84, f85, f86, f88, f90, b_b1, l_b1, b_b16, l_b16, b_b29, l_b29, d_b1_b16, d_b1_b29, d_b16_b29⟩
        refine Stk.run 1 (fun t H n => t 1 = .own b1 0 ∧ t 3 = .ssl (encs c36 x5.1) x5.1.length false ∧ t 5 = .sc (.int .i64 v12) ∧ t 6 = .own b16 0 ∧ t 7 = .sc (.int .i64 v25) ∧ t 8 = .own b29 0 ∧ t 45 = .ssl (encs c41 a0.Funs) a0.Funs.length false ∧ t 46 = .sc (.int .i64 (a0.Funs.length : Int)) ∧ t 47 = .sc (.int .i64 v12) ∧ t 84 = .ssl (encs c44 x15.Code) x15.Code.length false ∧ t 85 = .sc (.int .i64 (x15.Code.length : Int)) ∧ t 86 = .sc (.int .i64 v25) ∧ t 90 = .agg (c44 x28) ∧ H b1 = some (.cells (c26 a0) 26) ∧ b1 < n ∧ H b16 = some (.cells (c41 x15) 41) ∧ b16 < n ∧ H b29 = some (.cells (c44 (api_Inst.mk 0 0 0 0)) 44) ∧ b29 < n ∧ b1 ≠ b16 ∧ b1 ≠ b29 ∧ b16 ≠ b29) (fun J hJ => ?_) ?_
        ·simp [-splice, f1, f3, f5, f6, f8, f45, f46, f47, f84, f85, f86, f88, f90, b_b1, b_b16, b_b29]
         exact hJ _ _ _ ⟨by simp [f1], by simp [f3], by simp [f5], by simp [f6], by simp [-splice, f1, f3, f5, f6, f8, f45, f46, f47, f84, f85, f86, f88, f90, b_b1, b_b16, b_b29], by simp [f8], by simp [f45], by simp [f46], by simp [f47], by simp [f84], by simp [f85], by simp [f86], by simp [f90], b_b1, l_b1, b_b16, l_b16, b_b29, l_b29, d_b1_b16, d_b1_b29, d_b16_b29⟩
        clear f1 f3 f5 f6 f8 f45 f46 f47 f84 f85 f86 f88 f90 b_b1 l_b1 b_b16 l_b16 b_b29 l_b29 d_b1_b16 d_b1_b29 d_b16_b29
        rintro t H n ⟨f1, f3, f5, f6, f7, f8, f45, f46, f47, f84, f85, f86, f90, b_b1, l_b1, b_b16, l_b16, b_b29, l_b29, d_b1_b16, d_b1_b29, d_b16_b29⟩
        refine Stk.om (mop_store (z := 4) rfl f8 b_b29 f90 (len44 _) (by rw [len44]; decide) (ok44 _) (st_44_0_44 _ _)) (by simp [f1, f3, f5, f6, f7, f8, f45, f46, f47, f84, f85, f86, f90]) rfl (fun t' ht' => ?_)
        refine Stk.gen (fun t H n => t 1 = .own b1 0 ∧ t 3 = .ssl (encs c36 x5.1) x5.1.length false ∧ t 5 = .sc (.int .i64 v12) ∧ t 6 = .own b16 0 ∧ t 7 = .sc (.int .i64 v25) ∧ t 8 = .own b29 0 ∧ t 45 = .ssl (encs c41 a0.Funs) a0.Funs.length false ∧ t 46 = .sc (.int .i64 (a0.Funs.length : Int)) ∧ t 47 = .sc (.int .i64 v12) ∧ t 84 = .ssl (encs c44 x15.Code) x15.Code.length false ∧ t 85 = .sc (.int .i64 (x15.Code.length : Int)) ∧ t 86 = .sc (.int .i64 v25) ∧ H b1 = some (.cells (c26 a0) 26) ∧ b1 < n ∧ H b16 = some (.cells (c41 x15) 41) ∧ b16 < n ∧ H b29 = some (.cells (c44 x28) 44) ∧ b29 < n ∧ b1 ≠ b16 ∧ b1 ≠ b29 ∧ b16 ≠ b29) ⟨by simp [ht', f1], by simp [ht', f3], by simp [ht', f5], by simp [ht', f6], by simp [ht', f7], by simp [ht', f8], by simp [ht', f45], by simp [ht', f46], by simp [ht', f47], by simp [ht', f84], by simp [ht', f85], by simp [ht', f86], (upd_ne _ _ d_b1_b29).trans b_b1, l_b1, (upd_ne _ _ d_b16_b29).trans b_b16, l_b16, upd_same _ _ _, l_b29, d_b1_b16, d_b1_b29, d_b16_b29⟩ ?_
        clear f1 f3 f5 f6 f7 f8 f45 f46 f47 f84 f85 f86 f90 b_b1 l_b1 b_b16 l_b16 b_b29 l_b29 d_b1_b16 d_b1_b29 d_b16_b29 ht' t'
        rintro t H n ⟨f1, f3, f5, f6, f7, f8, f45, f46, f47, f84, f85, f86, b_b1, l_b1, b_b16, l_b16, b_b29, l_b29, d_b1_b16, d_b1_b29, d_b16_b29⟩
        refine Stk.on ?_
        refine Stk.sq ?_
        refine Stk.rg ?_
        obtain ⟨x30, hx30, h⟩ := bnd h
        obtain ⟨i0x30, i1x30, i2x30, _⟩ := idx_ok hx30
        have ex30_0_36 : partOf T.T 36 (encs c36 x5.1) (v12.toNat) = some (.ssl (encs c42 x30) x30.length false) := by
          have e0 := part_elem0 (e := c36) (z := 1) (T := T.T) (ty := 36) T.t36 (by decide) (by decide) hx30 0 (by decide)
          (try simp only [Nat.mul_one, Nat.add_zero] at e0)
          exact e0.trans rfl
        obtain ⟨x31, hx31, h⟩ := bnd h
        obtain ⟨i0x31, i1x31, i2x31, _⟩ := idx_ok hx31
        have ex31_0_42 : partOf T.T 42 (encs c42 x30) (v25.toNat) = some (.ssl (encs c4 x31) x31.length false) := by
          have e0 := part_elem0 (e := c42) (z := 1) (T := T.T) (ty := 42) T.t42 (by decide) (by decide) hx31 0 (by decide)
          (try simp only [Nat.mul_one, Nat.add_zero] at e0)
          exact e0.trans rfl
        refine Stk.run 8 (fun t H n => t 1 = .own b1 0 ∧ t 3 = .ssl (encs c36 x5.1) x5.1.length false ∧ t 5 = .sc (.int .i64 v12) ∧ t 6 = .own b16 0 ∧ t 7 = .sc (.int .i64 v25) ∧ t 8 = .own b29 0 ∧ t 9 = .ssl (encs c4 x31) x31.length false ∧ t 45 = .ssl (encs c41 a0.Funs) a0.Funs.length false ∧ t 46 = .sc (.int .i64 (a0.Funs.length : Int)) ∧ t 47 = .sc (.int .i64 v12) ∧ t 84 = .ssl (encs c44 x15.Code) x15.Code.length false ∧ t 85 = .sc (.int .i64 (x15.Code.length : Int)) ∧ t 86 = .sc (.int .i64 v25) ∧ H b1 = some (.cells (c26 a0) 26) ∧ b1 < n ∧ H b16 = some (.cells (c41 x15) 41) ∧ b16 < n ∧ H b29 = some (.cells (c44 x28) 44) ∧ b29 < n ∧ b1 ≠ b16 ∧ b1 ≠ b29 ∧ b16 ≠ b29) (fun J hJ => ?_) ?_
        ·simp [-splice, f1, f3, f5, f6, f7, f8, f45, f46, f47, f84, f85, f86, b_b1, b_b16, b_b29, i0x30, i1x30, pd36, ex30_0_36, i0x31, i1x31, pd42, ex31_0_42]
         exact hJ _ _ _ ⟨by simp [f1], by simp [f3], by simp [f5], by simp [f6], by simp [f7], by simp [f8], by simp [-splice, f1, f3, f5, f6, f7, f8, f45, f46, f47, f84, f85, f86, b_b1, b_b16, b_b29, i0x30, i1x30, pd36, ex30_0_36, i0x31, i1x31, pd42, ex31_0_42], by simp [f45], by simp [f46], by simp [f47], by simp [f84], by simp [f85], by simp [f86], b_b1, l_b1, b_b16, l_b16, b_b29, l_b29, d_b1_b16, d_b1_b29, d_b16_b29⟩
        clear f1 f3 f5 f6 f7 f8 f45 f46 f47 f84 f85 f86 b_b1 l_b1 b_b16 l_b16 b_b29 l_b29 d_b1_b16 d_b1_b29 d_b16_b29
        rintro t H n ⟨f1, f3, f5, f6, f7, f8, f9, f45, f46, f47, f84, f85, f86, b_b1, l_b1, b_b16, l_b16, b_b29, l_b29, d_b1_b16, d_b1_b29, d_b16_b29⟩
        refine Stk.on ?_
        refine Stk.sq ?_
        refine Stk.sq ?_
        refine Stk.rg ?_
        refine Stk.run 3 (fun t H n => t 1 = .own b1 0 ∧ t 3 = .ssl (encs c36 x5.1) x5.1.length false ∧ t 5 = .sc (.int .i64 v12) ∧ t 6 = .own b16 0 ∧ t 7 = .sc (.int .i64 v25) ∧ t 8 = .own b29 0 ∧ t 9 = .ssl (encs c4 x31) x31.length false ∧ t 45 = .ssl (encs c41 a0.Funs) a0.Funs.length false ∧ t 46 = .sc (.int .i64 (a0.Funs.length : Int)) ∧ t 47 = .sc (.int .i64 v12) ∧ t 84 = .ssl (encs c44 x15.Code) x15.Code.length false ∧ t 85 = .sc (.int .i64 (x15.Code.length : Int)) ∧ t 86 = .sc (.int .i64 v25) ∧ t 100 = .sc (.bool (decide (0 < v25))) ∧ H b1 = some (.cells (c26 a0) 26) ∧ b1 < n ∧ H b16 = some (.cells (c41 x15) 41) ∧ b16 < n ∧ H b29 = some (.cells (c44 x28) 44) ∧ b29 < n ∧ b1 ≠ b16 ∧ b1 ≠ b29 ∧ b16 ≠ b29) (fun J hJ => ?_) ?_
        ·simp [-splice, f1, f3, f5, f6, f7, f8, f9, f45, f46, f47, f84, f85, f86, b_b1, b_b16, b_b29]
         exact hJ _ _ _ ⟨by simp [f1], by simp [f3], by simp [f5], by simp [f6], by simp [f7], by simp [f8], by simp [f9], by simp [f45], by simp [f46], by simp [f47], by simp [f84], by simp [f85], by simp [f86], by simp [-splice, f1, f3, f5, f6, f7, f8, f9, f45, f46, f47, f84, f85, f86, b_b1, b_b16, b_b29], b_b1, l_b1, b_b16, l_b16, b_b29, l_b29, d_b1_b16, d_b1_b29, d_b16_b29⟩
        clear f1 f3 f5 f6 f7 f8 f9 f45 f46 f47 f84 f85 f86 b_b1 l_b1 b_b16 l_b16 b_b29 l_b29 d_b1_b16 d_b1_b29 d_b16_b29
        rintro t H n ⟨f1, f3, f5, f6, f7, f8, f9, f45, f46, f47, f84, f85, f86, f100, b_b1, l_b1, b_b16, l_b16, b_b29, l_b29, d_b1_b16, d_b1_b29, d_b16_b29⟩
        refine Stk.jo 4 (fun t H n => t 1 = .own b1 0 ∧ t 3 = .ssl (encs c36 x5.1) x5.1.length false ∧ t 5 = .sc (.int .i64 v12) ∧ t 6 = .own b16 0 ∧ t 7 = .sc (.int .i64 v25) ∧ t 8 = .own b29 0 ∧ t 9 = .ssl (encs c4 x31) x31.length false ∧ t 45 = .ssl (encs c41 a0.Funs) a0.Funs.length false ∧ t 46 = .sc (.int .i64 (a0.Funs.length : Int)) ∧ t 47 = .sc (.int .i64 v12) ∧ t 84 = .ssl (encs c44 x15.Code) x15.Code.length false ∧ t 85 = .sc (.int .i64 (x15.Code.length : Int)) ∧ t 86 = .sc (.int .i64 v25) ∧ t 104 = .sc (.bool ((decide (0 < v25)) && ((x31.length : Int) == 0))) ∧ H b1 = some (.cells (c26 a0) 26) ∧ b1 < n ∧ H b16 = some (.cells (c41 x15) 41) ∧ b16 < n ∧ H b29 = some (.cells (c44 x28) 44) ∧ b29 < n ∧ b1 ≠ b16 ∧ b1 ≠ b29 ∧ b16 ≠ b29) (fun J8 hJ8 => ?_) ?_
        ·rcases Bool.eq_false_or_eq_true (decide (0 < v25)) with hb8 | hb8
         ·rw [hb8] at f100
          refine Stk.run 4 (fun t H n => t 1 = .own b1 0 ∧ t 3 = .ssl (encs c36 x5.1) x5.1.length false ∧ t 5 = .sc (.int .i64 v12) ∧ t 6 = .own b16 0 ∧ t 7 = .sc (.int .i64 v25) ∧ t 8 = .own b29 0 ∧ t 9 = .ssl (encs c4 x31) x31.length false ∧ t 45 = .ssl (encs c41 a0.Funs) a0.Funs.length false ∧ t 46 = .sc (.int .i64 (a0.Funs.length : Int)) ∧ t 47 = .sc (.int .i64 v12) ∧ t 84 = .ssl (encs c44 x15.Code) x15.Code.length false ∧ t 85 = .sc (.int .i64 (x15.Code.length : Int)) ∧ t 86 = .sc (.int .i64 v25) ∧ t 104 = .sc (.bool ((x31.length : Int) == 0)) ∧ H b1 = some (.cells (c26 a0) 26) ∧ b1 < n ∧ H b16 = some (.cells (c41 x15) 41) ∧ b16 < n ∧ H b29 = some (.cells (c44 x28) 44) ∧ b29 < n ∧ b1 ≠ b16 ∧ b1 ≠ b29 ∧ b16 ≠ b29) (fun J hJ => ?_) ?_
          ·simp [-splice, f1, f3, f5, f6, f7, f8, f9, f45, f46, f47, f84, f85, f86, f100, b_b1, b_b16, b_b29]
           exact hJ _ _ _ ⟨by simp [f1], by simp [f3], by simp [f5], by simp [f6], by simp [f7], by simp [f8], by simp [f9], by simp [f45], by simp [f46], by simp [f47], by simp [f84], by simp [f85], by simp [f86], by simp [-splice, f1, f3, f5, f6, f7, f8, f9, f45, f46, f47, f84, f85, f86, f100, b_b1, b_b16, b_b29], b_b1, l_b1, b_b16, l_b16, b_b29, l_b29, d_b1_b16, d_b1_b29, d_b16_b29⟩
          clear f1 f3 f5 f6 f7 f8 f9 f45 f46 f47 f84 f85 f86 f100 b_b1 l_b1 b_b16 l_b16 b_b29 l_b29 d_b1_b16 d_b1_b29 d_b16_b29
          rintro t H n ⟨f1, f3, f5, f6, f7, f8, f9, f45, f46, f47, f84, f85, f86, f104, b_b1, l_b1, b_b16, l_b16, b_b29, l_b29, d_b1_b16, d_b1_b29, d_b16_b29⟩
          refine Stk.on ?_
          exact Stk.ln 0 (by decide) (hJ8 _ _ _ ⟨f1, f3, f5, f6, f7, f8, f9, f45, f46, f47, f84, f85, f86, f104.trans (congrArg (fun q => AV.sc (.bool q)) (by rw [hb8]; rfl)), b_b1, l_b1, b_b16, l_b16, b_b29, l_b29, d_b1_b16, d_b1_b29, d_b16_b29⟩)
         ·rw [hb8] at f100
          refine Stk.run 4 (fun t H n => t 1 = .own b1 0 ∧ t 3 = .ssl (encs c36 x5.1) x5.1.length false ∧ t 5 = .sc (.int .i64 v12) ∧ t 6 = .own b16 0 ∧ t 7 = .sc (.int .i64 v25) ∧ t 8 = .own b29 0 ∧ t 9 = .ssl (encs c4 x31) x31.length false ∧ t 45 = .ssl (encs c41 a0.Funs) a0.Funs.length false ∧ t 46 = .sc (.int .i64 (a0.Funs.length : Int)) ∧ t 47 = .sc (.int .i64 v12) ∧ t 84 = .ssl (encs c44 x15.Code) x15.Code.length false ∧ t 85 = .sc (.int .i64 (x15.Code.length : Int)) ∧ t 86 = .sc (.int .i64 v25) ∧ t 104 = .sc (.bool false) ∧ H b1 = some (.cells (c26 a0) 26) ∧ b1 < n ∧ H b16 = some (.cells (c41 x15) 41) ∧ b16 < n ∧ H b29 = some (.cells (c44 x28) 44) ∧ b29 < n ∧ b1 ≠ b16 ∧ b1 ≠ b29 ∧ b16 ≠ b29) (fun J hJ => ?_) ?_
          ·simp [-splice, f1, f3, f5, f6, f7, f8, f9, f45, f46, f47, f84, f85, f86, f100, b_b1, b_b16, b_b29]
           exact hJ _ _ _ ⟨by simp [f1], by simp [f3], by simp [f5], by simp [f6], by simp [f7], by simp [f8], by simp [f9], by simp [f45], by simp [f46], by simp [f47], by simp [f84], by simp [f85], by simp [f86], by simp [-splice, f1, f3, f5, f6, f7, f8, f9, f45, f46, f47, f84, f85, f86, f100, b_b1, b_b16, b_b29], b_b1, l_b1, b_b16, l_b16, b_b29, l_b29, d_b1_b16, d_b1_b29, d_b16_b29⟩
          clear f1 f3 f5 f6 f7 f8 f9 f45 f46 f47 f84 f85 f86 f100 b_b1 l_b1 b_b16 l_b16 b_b29 l_b29 d_b1_b16 d_b1_b29 d_b16_b29
          rintro t H n ⟨f1, f3, f5, f6, f7, f8, f9, f45, f46, f47, f84, f85, f86, f104, b_b1, l_b1, b_b16, l_b16, b_b29, l_b29, d_b1_b16, d_b1_b29, d_b16_b29⟩
          refine Stk.on ?_
          exact Stk.ln 0 (by decide) (hJ8 _ _ _ ⟨f1, f3, f5, f6, f7, f8, f9, f45, f46, f47, f84, f85, f86, f104.trans (congrArg (fun q => AV.sc (.bool q)) (by rw [hb8]; rfl)), b_b1, l_b1, b_b16, l_b16, b_b29, l_b29, d_b1_b16, d_b1_b29, d_b16_b29⟩)
        clear f1 f3 f5 f6 f7 f8 f9 f45 f46 f47 f84 f85 f86 f100 b_b1 l_b1 b_b16 l_b16 b_b29 l_b29 d_b1_b16 d_b1_b29 d_b16_b29
        rintro t H n ⟨f1, f3, f5, f6, f7, f8, f9, f45, f46, f47, f84, f85, f86, f104, b_b1, l_b1, b_b16, l_b16, b_b29, l_b29, d_b1_b16, d_b1_b29, d_b16_b29⟩
        refine Stk.on ?_
        refine Stk.cond ((decide (0 < v25)) && ((x31.length : Int) == 0)) (by exact f104) (fun hb32 => ?_) (fun hb32 => ?_)
        ·have h := cT hb32 h
         refine Stk.ex rfl ?_
         refine Stk.rg ?_
         refine Stk.run 2 (fun t H n => t 1 = .own b1 0 ∧ t 3 = .ssl (encs c36 x5.1) x5.1.length false ∧ t 5 = .sc (.int .i64 v12) ∧ t 6 = .own b16 0 ∧ t 45 = .ssl (encs c41 a0.Funs) a0.Funs.length false ∧ t 46 = .sc (.int .i64 (a0.Funs.length : Int)) ∧ t 47 = .sc (.int .i64 v12) ∧ t 84 = .ssl (encs c44 x15.Code) x15.Code.length false ∧ t 85 = .sc (.int .i64 (x15.Code.length : Int)) ∧ t 86 = .sc (.int .i64 (IntKind.i64.wrap (v25 + 1))) ∧ H b1 = some (.cells (c26 a0) 26) ∧ b1 < n ∧ H b16 = some (.cells (c41 x15) 41) ∧ b16 < n ∧ b1 ≠ b16) (fun J hJ => ?_) ?_
         ·simp [-splice, f1, f3, f5, f6, f7, f8, f9, f45, f46, f47, f84, f85, f86, f104, b_b1, b_b16, b_b29]
          exact hJ _ _ _ ⟨by simp [f1], by simp [f3], by simp [f5], by simp [f6], by simp [f45], by simp [f46], by simp [f47], by simp [f84], by simp [f85], by simp [-splice, f1, f3, f5, f6, f7, f8, f9, f45, f46, f47, f84, f85, f86, f104, b_b1, b_b16, b_b29], b_b1, l_b1, b_b16, l_b16, d_b1_b16⟩
         clear f1 f3 f5 f6 f7 f8 f9 f45 f46 f47 f84 f85 f86 f104 b_b1 l_b1 b_b16 l_b16 b_b29 l_b29 d_b1_b16 d_b1_b29 d_b16_b29
         rintro t H n ⟨f1, f3, f5, f6, f45, f46, f47, f84, f85, f86, b_b1, l_b1, b_b16, l_b16, d_b1_b16⟩
         refine Stk.on ?_
         exact Stk.ln μ (Nat.lt_succ_self _) (hJ7 _ _ _ _ ⟨(IntKind.i64.wrap (v25 + 1)), h, f1, f3, f5, f6, f45, f46, f47, f84, f85, f86, b_b1, l_b1, b_b16, l_b16, d_b1_b16⟩)
        ·have h := cF hb32 h
         refine Stk.sk ?_
         refine Stk.sq ?_
         refine Stk.rg ?_
         refine Stk.run 1 (fun t H n => t 1 = .own b1 0 ∧ t 3 = .ssl (encs c36 x5.1) x5.1.length false ∧ t 5 = .sc (.int .i64 v12) ∧ t 6 = .own b16 0 ∧ t 7 = .sc (.int .i64 v25) ∧ t 8 = .own b29 0 ∧ t 9 = .ssl (encs c4 x31) x31.length false ∧ t 45 = .ssl (encs c41 a0.Funs) a0.Funs.length false ∧ t 46 = .sc (.int .i64 (a0.Funs.length : Int)) ∧ t 47 = .sc (.int .i64 v12) ∧ t 84 = .ssl (encs c44 x15.Code) x15.Code.length false ∧ t 85 = .sc (.int .i64 (x15.Code.length : Int)) ∧ t 86 = .sc (.int .i64 v25) ∧ t 106 = .agg (c44 x28) ∧ H b1 = some (.cells (c26 a0) 26) ∧ b1 < n ∧ H b16 = some (.cells (c41 x15) 41) ∧ b16 < n ∧ H b29 = some (.cells (c44 x28) 44) ∧ b29 < n ∧ b1 ≠ b16 ∧ b1 ≠ b29 ∧ b16 ≠ b29) (fun J hJ => ?_) ?_
         ·simp [-splice, f1, f3, f5, f6, f7, f8, f9, f45, f46, f47, f84, f85, f86, f104, b_b1, b_b16, b_b29, ld_44_0_44]
          exact hJ _ _ _ ⟨by simp [f1], by simp [f3], by simp [f5], by simp [f6], by simp [f7], by simp [f8], by simp [f9], by simp [f45], by simp [f46], by simp [f47], by simp [f84], by simp [f85], by simp [f86], by simp [-splice, f1, f3, f5, f6, f7, f8, f9, f45, f46, f47, f84, f85, f86, f104, b_b1, b_b16, b_b29, ld_44_0_44], b_b1, l_b1, b_b16, l_b16, b_b29, l_b29, d_b1_b16, d_b1_b29, d_b16_b29⟩
         clear f1 f3 f5 f6 f7 f8 f9 f45 f46 f47 f84 f85 f86 f104 b_b1 l_b1 b_b16 l_b16 b_b29 l_b29 d_b1_b16 d_b1_b29 d_b16_b29
         rintro t H n ⟨f1, f3, f5, f6, f7, f8, f9, f45, f46, f47, f84, f85, f86, f106, b_b1, l_b1, b_b16, l_b16, b_b29, l_b29, d_b1_b16, d_b1_b29, d_b16_b29⟩
         obtain ⟨x33, hx33, h⟩ := bnd h
         refine Stk.cv (g := 14) (args := [.agg (c44 x28)]) (args' := [.agg (c44 x28)]) (v := .tup [.sc (.int .i64 x33.1), .sc (.int .i64 x33.2)]) [] (ok_R19_Takes F _ _ hx33) (by simp [f1, f3, f5, f6, f7, f8, f9, f45, f46, f47, f84, f85, f86, f106]) rfl rfl (by simp [f1, f3, f5, f6, f7, f8, f9, f45, f46, f47, f84, f85, f86, f106]) (.cons (.free (fr44 _)) (.nil)) (.inl ⟨rfl, by simp [free, freeL]⟩) (fun t' ht' => ?_)
         refine Stk.gen (fun t H n => t 1 = .own b1 0 ∧ t 3 = .ssl (encs c36 x5.1) x5.1.length false ∧ t 5 = .sc (.int .i64 v12) ∧ t 6 = .own b16 0 ∧ t 7 = .sc (.int .i64 v25) ∧ t 8 = .own b29 0 ∧ t 9 = .ssl (encs c4 x31) x31.length false ∧ t 45 = .ssl (encs c41 a0.Funs) a0.Funs.length false ∧ t 46 = .sc (.int .i64 (a0.Funs.length : Int)) ∧ t 47 = .sc (.int .i64 v12) ∧ t 84 = .ssl (encs c44 x15.Code) x15.Code.length false ∧ t 85 = .sc (.int .i64 (x15.Code.length : Int)) ∧ t 86 = .sc (.int .i64 v25) ∧ t 107 = .tup [.sc (.int .i64 x33.1), .sc (.int .i64 x33.2)] ∧ H b1 = some (.cells (c26 a0) 26) ∧ b1 < n ∧ H b16 = some (.cells (c41 x15) 41) ∧ b16 < n ∧ H b29 = some (.cells (c44 x28) 44) ∧ b29 < n ∧ b1 ≠ b16 ∧ b1 ≠ b29 ∧ b16 ≠ b29) ⟨by simp [ht', f1], by simp [ht', f3], by simp [ht', f5], by simp [ht', f6], by simp [ht', f7], by simp [ht', f8], by simp [ht', f9], by simp [ht', f45], by simp [ht', f46], by simp [ht', f47], by simp [ht', f84], by simp [ht', f85], by simp [ht', f86], by simp [ht'], b_b1, l_b1, b_b16, l_b16, b_b29, l_b29, d_b1_b16, d_b1_b29, d_b16_b29⟩ ?_
         clear f1 f3 f5 f6 f7 f8 f9 f45 f46 f47 f84 f85 f86 f106 b_b1 l_b1 b_b16 l_b16 b_b29 l_b29 d_b1_b16 d_b1_b29 d_b16_b29 ht' t'
         rintro t H n ⟨f1, f3, f5, f6, f7, f8, f9, f45, f46, f47, f84, f85, f86, f107, b_b1, l_b1, b_b16, l_b16, b_b29, l_b29, d_b1_b16, d_b1_b29, d_b16_b29⟩
         refine Stk.run 5 (fun t H n => t 1 = .own b1 0 ∧ t 3 = .ssl (encs c36 x5.1) x5.1.length false ∧ t 5 = .sc (.int .i64 v12) ∧ t 6 = .own b16 0 ∧ t 7 = .sc (.int .i64 v25) ∧ t 8 = .own b29 0 ∧ t 9 = .ssl (encs c4 x31) x31.length false ∧ t 10 = .sc (.int .i64 x33.1) ∧ t 11 = .sc (.int .i64 x33.2) ∧ t 45 = .ssl (encs c41 a0.Funs) a0.Funs.length false ∧ t 46 = .sc (.int .i64 (a0.Funs.length : Int)) ∧ t 47 = .sc (.int .i64 v12) ∧ t 84 = .ssl (encs c44 x15.Code) x15.Code.length false ∧ t 85 = .sc (.int .i64 (x15.Code.length : Int)) ∧ t 86 = .sc (.int .i64 v25) ∧ H b1 = some (.cells (c26 a0) 26) ∧ b1 < n ∧ H b16 = some (.cells (c41 x15) 41) ∧ b16 < n ∧ H b29 = some (.cells (c44 x28) 44) ∧ b29 < n ∧ b1 ≠ b16 ∧ b1 ≠ b29 ∧ b16 ≠ b29) (fun J hJ => ?_) ?_
         ·simp [-splice, f1, f3, f5, f6, f7, f8, f9, f45, f46, f47, f84, f85, f86, f107, b_b1, b_b16, b_b29]
          exact hJ _ _ _ ⟨by simp [f1], by simp [f3], by simp [f5], by simp [f6], by simp [f7], by simp [f8], by simp [f9], by simp [-splice, f1, f3, f5, f6, f7, f8, f9, f45, f46, f47, f84, f85, f86, f107, b_b1, b_b16, b_b29], by simp [-splice, f1, f3, f5, f6, f7, f8, f9, f45, f46, f47, f84, f85, f86, f107, b_b1, b_b16, b_b29], by simp [f45], by simp [f46], by simp [f47], by simp [f84], by simp [f85], by simp [f86], b_b1, l_b1, b_b16, l_b16, b_b29, l_b29, d_b1_b16, d_b1_b29, d_b16_b29⟩
         clear f1 f3 f5 f6 f7 f8 f9 f45 f46 f47 f84 f85 f86 f107 b_b1 l_b1 b_b16 l_b16 b_b29 l_b29 d_b1_b16 d_b1_b29 d_b16_b29
         rintro t H n ⟨f1, f3, f5, f6, f7, f8, f9, f10, f11, f45, f46, f47, f84, f85, f86, b_b1, l_b1, b_b16, l_b16, b_b29, l_b29, d_b1_b16, d_b1_b29, d_b16_b29⟩
         refine Stk.on ?_
         refine Stk.sq ?_
         refine Stk.rg ?_
         refine Stk.run 1 (fun t H n => t 1 = .own b1 0 ∧ t 3 = .ssl (encs c36 x5.1) x5.1.length false ∧ t 5 = .sc (.int .i64 v12) ∧ t 6 = .own b16 0 ∧ t 7 = .sc (.int .i64 v25) ∧ t 8 = .own b29 0 ∧ t 9 = .ssl (encs c4 x31) x31.length false ∧ t 10 = .sc (.int .i64 x33.1) ∧ t 11 = .sc (.int .i64 x33.2) ∧ t 45 = .ssl (encs c41 a0.Funs) a0.Funs.length false ∧ t 46 = .sc (.int .i64 (a0.Funs.length : Int)) ∧ t 47 = .sc (.int .i64 v12) ∧ t 84 = .ssl (encs c44 x15.Code) x15.Code.length false ∧ t 85 = .sc (.int .i64 (x15.Code.length : Int)) ∧ t 86 = .sc (.int .i64 v25) ∧ t 111 = .agg (c44 x28) ∧ H b1 = some (.cells (c26 a0) 26) ∧ b1 < n ∧ H b16 = some (.cells (c41 x15) 41) ∧ b16 < n ∧ H b29 = some (.cells (c44 x28) 44) ∧ b29 < n ∧ b1 ≠ b16 ∧ b1 ≠ b29 ∧ b16 ≠ b29) (fun J hJ => ?_) ?_
         ·simp [-splice, f1, f3, f5, f6, f7, f8, f9, f10, f11, f45, f46, f47, f84, f85, f86, b_b1, b_b16, b_b29, ld_44_0_44]
          exact hJ _ _ _ ⟨by simp [f1], by simp [f3], by simp [f5], by simp [f6], by simp [f7], by simp [f8], by simp [f9], by simp [f10], by simp [f11], by simp [f45], by simp [f46], by simp [f47], by simp [f84], by simp [f85], by simp [f86], by simp [-splice, f1, f3, f5, f6, f7, f8, f9, f10, f11, f45, f46, f47, f84, f85, f86, b_b1, b_b16, b_b29, ld_44_0_44], b_b1, l_b1, b_b16, l_b16, b_b29, l_b29, d_b1_b16, d_b1_b29, d_b16_b29⟩
         clear f1 f3 f5 f6 f7 f8 f9 f10 f11 f45 f46 f47 f84 f85 f86 b_b1 l_b1 b_b16 l_b16 b_b29 l_b29 d_b1_b16 d_b1_b29 d_b16_b29
         rintro t H n ⟨f1, f3, f5, f6, f7, f8, f9, f10, f11, f45, f46, f47, f84, f85, f86, f111, b_b1, l_b1, b_b16, l_b16, b_b29, l_b29, d_b1_b16, d_b1_b29, d_b16_b29⟩
         obtain ⟨x34, hx34, h⟩ := bnd h
         refine Stk.cv (g := 15) (args := [.agg (c44 x28)]) (args' := [.agg (c44 x28)]) (v := .tup [.ssl (encs c3 x34.1) x34.1.length false, .sc (.bool x34.2)]) [] (ok_R19_Goes F _ _ hx34) (by simp [f1, f3, f5, f6, f7, f8, f9, f10, f11, f45, f46, f47, f84, f85, f86, f111]) rfl rfl (by simp [f1, f3, f5, f6, f7, f8, f9, f10, f11, f45, f46, f47, f84, f85, f86, f111]) (.cons (.free (fr44 _)) (.nil)) (.inl ⟨rfl, by simp [free, freeL, freeL_encs fr3]⟩) (fun t' ht' => ?_)
         refine Stk.gen (fun t H n => t 1 = .own b1 0 ∧ t 3 = .ssl (encs c36 x5.1) x5.1.length false ∧ t 5 = .sc (.int .i64 v12) ∧ t 6 = .own b16 0 ∧ t 7 = .sc (.int .i64 v25) ∧ t 8 = .own b29 0 ∧ t 9 = .ssl (encs c4 x31) x31.length false ∧ t 10 = .sc (.int .i64 x33.1) ∧ t 11 = .sc (.int .i64 x33.2) ∧ t 45 = .ssl (encs c41 a0.Funs) a0.Funs.length false ∧ t 46 = .sc (.int .i64 (a0.Funs.length : Int)) ∧ t 47 = .sc (.int .i64 v12) ∧ t 84 = .ssl (encs c44 x15.Code) x15.Code.length false ∧ t 85 = .sc (.int .i64 (x15.Code.length : Int)) ∧ t 86 = .sc (.int .i64 v25) ∧ t 112 = .tup [.ssl (encs c3 x34.1) x34.1.length false, .sc (.bool x34.2)] ∧ H b1 = some (.cells (c26 a0) 26) ∧ b1 < n ∧ H b16 = some (.cells (c41 x15) 41) ∧ b16 < n ∧ H b29 = some (.cells (c44 x28) 44) ∧ b29 < n ∧ b1 ≠ b16 ∧ b1 ≠ b29 ∧ b16 ≠ b29) ⟨by simp [ht', f1], by simp [ht', f3], by simp [ht', f5], by simp [ht', f6], by simp [ht', f7], by simp [ht', f8], by simp [ht', f9], by simp [ht', f10], by simp [ht', f11], by simp [ht', f45], by simp [ht', f46], by simp [ht', f47], by simp [ht', f84], by simp [ht', f85], by simp [ht', f86], by simp [ht'], b_b1, l_b1, b_b16, l_b16, b_b29, l_b29, d_b1_b16, d_b1_b29, d_b16_b29⟩ ?_
         clear f1 f3 f5 f6 f7 f8 f9 f10 f11 f45 f46 f47 f84 f85 f86 f111 b_b1 l_b1 b_b16 l_b16 b_b29 l_b29 d_b1_b16 d_b1_b29 d_b16_b29 ht' t'
         rintro t H n ⟨f1, f3, f5, f6, f7, f8, f9, f10, f11, f45, f46, f47, f84, f85, f86, f112, b_b1, l_b1, b_b16, l_b16, b_b29, l_b29, d_b1_b16, d_b1_b29, d_b16_b29⟩
         refine Stk.run 5 (fun t H n => t 1 = .own b1 0 ∧ t 3 = .ssl (encs c36 x5.1) x5.1.length false ∧ t 5 = .sc (.int .i64 v12) ∧ t 6 = .own b16 0 ∧ t 7 = .sc (.int .i64 v25) ∧ t 8 = .own b29 0 ∧ t 9 = .ssl (encs c4 x31) x31.length false ∧ t 10 = .sc (.int .i64 x33.1) ∧ t 11 = .sc (.int .i64 x33.2) ∧ t 12 = .ssl (encs c3 x34.1) x34.1.length false ∧ t 13 = .sc (.bool x34.2) ∧ t 45 = .ssl (encs c41 a0.Funs) a0.Funs.length false ∧ t 46 = .sc (.int .i64 (a0.Funs.length : Int)) ∧ t 47 = .sc (.int .i64 v12) ∧ t 84 = .ssl (encs c44 x15.Code) x15.Code.length false ∧ t 85 = .sc (.int .i64 (x15.Code.length : Int)) ∧ t 86 = .sc (.int .i64 v25) ∧ H b1 = some (.cells (c26 a0) 26) ∧ b1 < n ∧ H b16 = some (.cells (c41 x15) 41) ∧ b16 < n ∧ H b29 = some (.cells (c44 x28) 44) ∧ b29 < n ∧ b1 ≠ b16 ∧ b1 ≠ b29 ∧ b16 ≠ b29) (fun J hJ => ?_) ?_
         ·simp [-splice, f1, f3, f5, f6, f7, f8, f9, f10, f11, f45, f46, f47, f84, f85, f86, f112, b_b1, b_b16, b_b29]
          exact hJ _ _ _ ⟨by simp [f1], by simp [f3], by simp [f5], by simp [f6], by simp [f7], by simp [f8], by simp [f9], by simp [f10], by simp [f11], by simp [-splice, f1, f3, f5, f6, f7, f8, f9, f10, f11, f45, f46, f47, f84, f85, f86, f112, b_b1, b_b16, b_b29], by simp [-splice, f1, f3, f5, f6, f7, f8, f9, f10, f11, f45, f46, f47, f84, f85, f86, f112, b_b1, b_b16, b_b29], by simp [f45], by simp [f46], by simp [f47], by simp [f84], by simp [f85], by simp [f86], b_b1, l_b1, b_b16, l_b16, b_b29, l_b29, d_b1_b16, d_b1_b29, d_b16_b29⟩
         clear f1 f3 f5 f6 f7 f8 f9 f10 f11 f45 f46 f47 f84 f85 f86 f112 b_b1 l_b1 b_b16 l_b16 b_b29 l_b29 d_b1_b16 d_b1_b29 d_b16_b29
         rintro t H n ⟨f1, f3, f5, f6, f7, f8, f9, f10, f11, f12, f13, f45, f46, f47, f84, f85, f86, b_b1, l_b1, b_b16, l_b16, b_b29, l_b29, d_b1_b16, d_b1_b29, d_b16_b29⟩
         refine Stk.on ?_
         refine Stk.sq ?_
         refine Stk.sq ?_
         refine Stk.rg ?_
         refine Stk.run 4 (fun t H n => t 1 = .own b1 0 ∧ t 3 = .ssl (encs c36 x5.1) x5.1.length false ∧ t 5 = .sc (.int .i64 v12) ∧ t 6 = .own b16 0 ∧ t 7 = .sc (.int .i64 v25) ∧ t 8 = .own b29 0 ∧ t 9 = .ssl (encs c4 x31) x31.length false ∧ t 10 = .sc (.int .i64 x33.1) ∧ t 11 = .sc (.int .i64 x33.2) ∧ t 12 = .ssl (encs c3 x34.1) x34.1.length false ∧ t 13 = .sc (.bool x34.2) ∧ t 45 = .ssl (encs c41 a0.Funs) a0.Funs.length false ∧ t 46 = .sc (.int .i64 (a0.Funs.length : Int)) ∧ t 47 = .sc (.int .i64 v12) ∧ t 84 = .ssl (encs c44 x15.Code) x15.Code.length false ∧ t 85 = .sc (.int .i64 (x15.Code.length : Int)) ∧ t 86 = .sc (.int .i64 v25) ∧ t 118 = .sc (.bool (x28.Op == 11)) ∧ H b1 = some (.cells (c26 a0) 26) ∧ b1 < n ∧ H b16 = some (.cells (c41 x15) 41) ∧ b16 < n ∧ H b29 = some (.cells (c44 x28) 44) ∧ b29 < n ∧ b1 ≠ b16 ∧ b1 ≠ b29 ∧ b16 ≠ b29) (fun J hJ => ?_) ?_
         ·simp [-splice, f1, f3, f5, f6, f7, f8, f9, f10, f11, f12, f13, f45, f46, f47, f84, f85, f86, b_b1, b_b16, b_b29, ld_44_0_3]
          exact hJ _ _ _ ⟨by simp [f1], by simp [f3], by simp [f5], by simp [f6], by simp [f7], by simp [f8], by simp [f9], by simp [f10], by simp [f11], by simp [f12], by simp [f13], by simp [f45], by simp [f46], by simp [f47], by simp [f84], by simp [f85], by simp [f86], by simp [-splice, f1, f3, f5, f6, f7, f8, f9, f10, f11, f12, f13, f45, f46, f47, f84, f85, f86, b_b1, b_b16, b_b29, ld_44_0_3], b_b1, l_b1, b_b16, l_b16, b_b29, l_b29, d_b1_b16, d_b1_b29, d_b16_b29⟩
         clear f1 f3 f5 f6 f7 f8 f9 f10 f11 f12 f13 f45 f46 f47 f84 f85 f86 b_b1 l_b1 b_b16 l_b16 b_b29 l_b29 d_b1_b16 d_b1_b29 d_b16_b29
         rintro t H n ⟨f1, f3, f5, f6, f7, f8, f9, f10, f11, f12, f13, f45, f46, f47, f84, f85, f86, f118, b_b1, l_b1, b_b16, l_b16, b_b29, l_b29, d_b1_b16, d_b1_b29, d_b16_b29⟩
         refine Stk.jo 7 (fun t H n => t 1 = .own b1 0 ∧ t 3 = .ssl (encs c36 x5.1) x5.1.length false ∧ t 5 = .sc (.int .i64 v12) ∧ t 6 = .own b16 0 ∧ t 7 = .sc (.int .i64 v25) ∧ t 8 = .own b29 0 ∧ t 9 = .ssl (encs c4 x31) x31.length false ∧ t 10 = .sc (.int .i64 x33.1) ∧ t 11 = .sc (.int .i64 x33.2) ∧ t 12 = .ssl (encs c3 x34.1) x34.1.length false ∧ t 13 = .sc (.bool x34.2) ∧ t 45 = .ssl (encs c41 a0.Funs) a0.Funs.length false ∧ t 46 = .sc (.int .i64 (a0.Funs.length : Int)) ∧ t 47 = .sc (.int .i64 v12) ∧ t 84 = .ssl (encs c44 x15.Code) x15.Code.length false ∧ t 85 = .sc (.int .i64 (x15.Code.length : Int)) ∧ t 86 = .sc (.int .i64 v25) ∧ t 125 = .sc (.bool ((x28.Op == 11) && (decide (x28.B < (a0.Tables.length : Int))))) ∧ H b1 = some (.cells (c26 a0) 26) ∧ b1 < n ∧ H b16 = some (.cells (c41 x15) 41) ∧ b16 < n ∧ H b29 = some (.cells (c44 x28) 44) ∧ b29 < n ∧ b1 ≠ b16 ∧ b1 ≠ b29 ∧ b16 ≠ b29) (fun J9 hJ9 => ?_) ?_
         ·rcases Bool.eq_false_or_eq_true (x28.Op == 11) with hb9 | hb9
          ·rw [hb9] at f118
           refine Stk.run 7 (fun t H n => t 1 = .own b1 0 ∧ t 3 = .ssl (encs c36 x5.1) x5.1.length false ∧ t 5 = .sc (.int .i64 v12) ∧ t 6 = .own b16 0 ∧ t 7 = .sc (.int .i64 v25) ∧ t 8 = .own b29 0 ∧ t 9 = .ssl (encs c4 x31) x31.length false ∧ t 10 = .sc (.int .i64 x33.1) ∧ t 11 = .sc (.int .i64 x33.2) ∧ t 12 = .ssl (encs c3 x34.1) x34.1.length false ∧ t 13 = .sc (.bool x34.2) ∧ t 45 = .ssl (encs c41 a0.Funs) a0.Funs.length false ∧ t 46 = .sc (.int .i64 (a0.Funs.length : Int)) ∧ t 47 = .sc (.int .i64 v12) ∧ t 84 = .ssl (encs c44 x15.Code) x15.Code.length false ∧ t 85 = .sc (.int .i64 (x15.Code.length : Int)) ∧ t 86 = .sc (.int .i64 v25) ∧ t 125 = .sc (.bool (decide (x28.B < (a0.Tables.length : Int)))) ∧ H b1 = some (.cells (c26 a0) 26) ∧ b1 < n ∧ H b16 = some (.cells (c41 x15) 41) ∧ b16 < n ∧ H b29 = some (.cells (c44 x28) 44) ∧ b29 < n ∧ b1 ≠ b16 ∧ b1 ≠ b29 ∧ b16 ≠ b29) (fun J hJ => ?_) ?_
           ·simp [-splice, f1, f3, f5, f6, f7, f8, f9, f10, f11, f12, f13, f45, f46, f47, f84, f85, f86, f118, b_b1, b_b16, b_b29, ld_44_2_3, ld_26_2_24]
            exact hJ _ _ _ ⟨by simp [f1], by simp [f3], by simp [f5], by simp [f6], by simp [f7], by simp [f8], by simp [f9], by simp [f10], by simp [f11], by simp [f12], by simp [f13], by simp [f45], by simp [f46], by simp [f47], by simp [f84], by simp [f85], by simp [f86], by simp [-splice, f1, f3, f5, f6, f7, f8, f9, f10, f11, f12, f13, f45, f46, f47, f84, f85, f86, f118, b_b1, b_b16, b_b29, ld_44_2_3, ld_26_2_24], b_b1, l_b1, b_b16, l_b16, b_b29, l_b29, d_b1_b16, d_b1_b29, d_b16_b29⟩
           clear f1 f3 f5 f6 f7 f8 f9 f10 f11 f12 f13 f45 f46 f47 f84 f85 f86 f118 b_b1 l_b1 b_b16 l_b16 b_b29 l_b29 d_b1_b16 d_b1_b29 d_b16_b29
           rintro t H n ⟨f1, f3, f5, f6, f7, f8, f9, f10, f11, f12, f13, f45, f46, f47, f84, f85, f86, f125, b_b1, l_b1, b_b16, l_b16, b_b29, l_b29, d_b1_b16, d_b1_b29, d_b16_b29⟩
           refine Stk.on ?_
           exact Stk.ln 0 (by decide) (hJ9 _ _ _ ⟨f1, f3, f5, f6, f7, f8, f9, f10, f11, f12, f13, f45, f46, f47, f84, f85, f86, f125.trans (congrArg (fun q => AV.sc (.bool q)) (by rw [hb9]; rfl)), b_b1, l_b1, b_b16, l_b16, b_b29, l_b29, d_b1_b16, d_b1_b29, d_b16_b29⟩)
          ·rw [hb9] at f118
           refine Stk.run 7 (fun t H n => t 1 = .own b1 0 ∧ t 3 = .ssl (encs c36 x5.1) x5.1.length false ∧ t 5 = .sc (.int .i64 v12) ∧ t 6 = .own b16 0 ∧ t 7 = .sc (.int .i64 v25) ∧ t 8 = .own b29 0 ∧ t 9 = .ssl (encs c4 x31) x31.length false ∧ t 10 = .sc (.int .i64 x33.1) ∧ t 11 = .sc (.int .i64 x33.2) ∧ t 12 = .ssl (encs c3 x34.1) x34.1.length false ∧ t 13 = .sc (.bool x34.2) ∧ t 45 = .ssl (encs c41 a0.Funs) a0.Funs.length false ∧ t 46 = .sc (.int .i64 (a0.Funs.length : Int)) ∧ t 47 = .sc (.int .i64 v12) ∧ t 84 = .ssl (encs c44 x15.Code) x15.Code.length false ∧ t 85 = .sc (.int .i64 (x15.Code.length : Int)) ∧ t 86 = .sc (.int .i64 v25) ∧ t 125 = .sc (.bool false) ∧ H b1 = some (.cells (c26 a0) 26) ∧ b1 < n ∧ H b16 = some (.cells (c41 x15) 41) ∧ b16 < n ∧ H b29 = some (.cells (c44 x28) 44) ∧ b29 < n ∧ b1 ≠ b16 ∧ b1 ≠ b29 ∧ b16 ≠ b29) (fun J hJ => ?_) ?_
           ·simp [-splice, f1, f3, f5, f6, f7, f8, f9, f10, f11, f12, f13, f45, f46, f47, f84, f85, f86, f118, b_b1, b_b16, b_b29]
            exact hJ _ _ _ ⟨by simp [f1], by simp [f3], by simp [f5], by simp [f6], by simp [f7], by simp [f8], by simp [f9], by simp [f10], by simp [f11], by simp [f12], by simp [f13], by simp [f45], by simp [f46], by simp [f47], by simp [f84], by simp [f85], by simp [f86], by simp [-splice, f1, f3, f5, f6, f7, f8, f9, f10, f11, f12, f13, f45, f46, f47, f84, f85, f86, f118, b_b1, b_b16, b_b29], b_b1, l_b1, b_b16, l_b16, b_b29, l_b29, d_b1_b16, d_b1_b29, d_b16_b29⟩
           clear f1 f3 f5 f6 f7 f8 f9 f10 f11 f12 f13 f45 f46 f47 f84 f85 f86 f118 b_b1 l_b1 b_b16 l_b16 b_b29 l_b29 d_b1_b16 d_b1_b29 d_b16_b29
           rintro t H n ⟨f1, f3, f5, f6, f7, f8, f9, f10, f11, f12, f13, f45, f46, f47, f84, f85, f86, f125, b_b1, l_b1, b_b16, l_b16, b_b29, l_b29, d_b1_b16, d_b1_b29, d_b16_b29⟩
           refine Stk.on ?_
           exact Stk.ln 0 (by decide) (hJ9 _ _ _ ⟨f1, f3, f5, f6, f7, f8, f9, f10, f11, f12, f13, f45, f46, f47, f84, f85, f86, f125.trans (congrArg (fun q => AV.sc (.bool q)) (by rw [hb9]; rfl)), b_b1, l_b1, b_b16, l_b16, b_b29, l_b29, d_b1_b16, d_b1_b29, d_b16_b29⟩)
         clear f1 f3 f5 f6 f7 f8 f9 f10 f11 f12 f13 f45 f46 f47 f84 f85 f86 f118 b_b1 l_b1 b_b16 l_b16 b_b29 l_b29 d_b1_b16 d_b1_b29 d_b16_b29
         rintro t H n ⟨f1, f3, f5, f6, f7, f8, f9, f10, f11, f12, f13, f45, f46, f47, f84, f85, f86, f125, b_b1, l_b1, b_b16, l_b16, b_b29, l_b29, d_b1_b16, d_b1_b29, d_b16_b29⟩
         refine Stk.on ?_
         obtain ⟨K10, hK10, h⟩ := jnd h
         refine Stk.jn (fun t H n => ∃ v35 : (List Int), K10 v35 = some r ∧ t 1 = .own b1 0 ∧ t 3 = .ssl (encs c36 x5.1) x5.1.length false ∧ t 5 = .sc (.int .i64 v12) ∧ t 6 = .own b16 0 ∧ t 7 = .sc (.int .i64 v25) ∧ t 8 = .own b29 0 ∧ t 9 = .ssl (encs c4 x31) x31.length false ∧ t 10 = .sc (.int .i64 x33.1) ∧ t 11 = .sc (.int .i64 x33.2) ∧ t 12 = .ssl (encs c3 v35) v35.length false ∧ t 13 = .sc (.bool x34.2) ∧ t 45 = .ssl (encs c41 a0.Funs) a0.Funs.length false ∧ t 46 = .sc (.int .i64 (a0.Funs.length : Int)) ∧ t 47 = .sc (.int .i64 v12) ∧ t 84 = .ssl (encs c44 x15.Code) x15.Code.length false ∧ t 85 = .sc (.int .i64 (x15.Code.length : Int)) ∧ t 86 = .sc (.int .i64 v25) ∧ H b1 = some (.cells (c26 a0) 26) ∧ b1 < n ∧ H b16 = some (.cells (c41 x15) 41) ∧ b16 < n ∧ H b29 = some (.cells (c44 x28) 44) ∧ b29 < n ∧ b1 ≠ b16 ∧ b1 ≠ b29 ∧ b16 ≠ b29) trivial (fun J10 hJ10 => ?_) ?_
         ·skip
          refine Stk.cond ((x28.Op == 11) && (decide (x28.B < (a0.Tables.length : Int)))) (by exact f125) (fun hb36 => ?_) (fun hb36 => ?_)
          ·have h := cT hb36 h
           refine Stk.rg ?_
           obtain ⟨x37, hx37, h⟩ := bnd h
           obtain ⟨i0x37, i1x37, i2x37, _⟩ := idx_ok hx37
           have ex37_0_47 : partOf T.T 47 (encs c47 a0.Tables) (x28.B.toNat) = some (.ssl (encs c3 x37) x37.length false) := by
             have e0 := part_elem0 (e := c47) (z := 1) (T := T.T) (ty := 47) T.t47 (by decide) (by decide) hx37 0 (by decide)
             (try simp only [Nat.mul_one, Nat.add_zero] at e0)
             exact e0.trans rfl
           refine Stk.run 7 (fun t H n => t 1 = .own b1 0 ∧ t 3 = .ssl (encs c36 x5.1) x5.1.length false ∧ t 5 = .sc (.int .i64 v12) ∧ t 6 = .own b16 0 ∧ t 7 = .sc (.int .i64 v25) ∧ t 8 = .own b29 0 ∧ t 9 = .ssl (encs c4 x31) x31.length false ∧ t 10 = .sc (.int .i64 x33.1) ∧ t 11 = .sc (.int .i64 x33.2) ∧ t 12 = .ssl (encs c3 x37) x37.length false ∧ t 13 = .sc (.bool x34.2) ∧ t 45 = .ssl (encs c41 a0.Funs) a0.Funs.length false ∧ t 46 = .sc (.int .i64 (a0.Funs.length : Int)) ∧ t 47 = .sc (.int .i64 v12) ∧ t 84 = .ssl (encs c44 x15.Code) x15.Code.length false ∧ t 85 = .sc (.int .i64 (x15.Code.length : Int)) ∧ t 86 = .sc (.int .i64 v25) ∧ H b1 = some (.cells (c26 a0) 26) ∧ b1 < n ∧ H b16 = some (.cells (c41 x15) 41) ∧ b16 < n ∧ H b29 = some (.cells (c44 x28) 44) ∧ b29 < n ∧ b1 ≠ b16 ∧ b1 ≠ b29 ∧ b16 ≠ b29) (fun J hJ => ?_) ?_
           ·simp [-splice, f1, f3, f5, f6, f7, f8, f9, f10, f11, f12, f13, f45, f46, f47, f84, f85, f86, f125, b_b1, b_b16, b_b29, ld_26_2_24, ld_44_2_3, i0x37, i1x37, pd47, ex37_0_47]
            exact hJ _ _ _ ⟨by simp [f1], by simp [f3], by simp [f5], by simp [f6], by simp [f7], by simp [f8], by simp [f9], by simp [f10], by simp [f11], by simp [-splice, f1, f3, f5, f6, f7, f8, f9, f10, f11, f12, f13, f45, f46, f47, f84, f85, f86, f125, b_b1, b_b16, b_b29, ld_26_2_24, ld_44_2_3, i0x37, i1x37, pd47, ex37_0_47], by simp [f13], by simp [f45], by simp [f46], by simp [f47], by simp [f84], by simp [f85], by simp [f86], b_b1, l_b1, b_b16, l_b16, b_b29, l_b29, d_b1_b16, d_b1_b29, d_b16_b29⟩
           clear f1 f3 f5 f6 f7 f8 f9 f10 f11 f12 f13 f45 f46 f47 f84 f85 f86 f125 b_b1 l_b1 b_b16 l_b16 b_b29 l_b29 d_b1_b16 d_b1_b29 d_b16_b29
           rintro t H n ⟨f1, f3, f5, f6, f7, f8, f9, f10, f11, f12, f13, f45, f46, f47, f84, f85, f86, b_b1, l_b1, b_b16, l_b16, b_b29, l_b29, d_b1_b16, d_b1_b29, d_b16_b29⟩
           refine Stk.on ?_
           exact Stk.ln 0 (by decide) (hJ10 _ _ _ ⟨x37, h, f1, f3, f5, f6, f7, f8, f9, f10, f11, f12, f13, f45, f46, f47, f84, f85, f86, b_b1, l_b1, b_b16, l_b16, b_b29, l_b29, d_b1_b16, d_b1_b29, d_b16_b29⟩)
          ·have h := cF hb36 h
           refine Stk.sk ?_
           exact Stk.ln 0 (by decide) (hJ10 _ _ _ ⟨x34.1, h, f1, f3, f5, f6, f7, f8, f9, f10, f11, f12, f13, f45, f46, f47, f84, f85, f86, b_b1, l_b1, b_b16, l_b16, b_b29, l_b29, d_b1_b16, d_b1_b29, d_b16_b29⟩)
         clear h f1 f3 f5 f6 f7 f8 f9 f10 f11 f12 f13 f45 f46 f47 f84 f85 f86 f125 b_b1 l_b1 b_b16 l_b16 b_b29 l_b29 d_b1_b16 d_b1_b29 d_b16_b29
         rintro t H n ⟨v35, h, f1, f3, f5, f6, f7, f8, f9, f10, f11, f12, f13, f45, f46, f47, f84, f85, f86, b_b1, l_b1, b_b16, l_b16, b_b29, l_b29, d_b1_b16, d_b1_b29, d_b16_b29⟩
         subst hK10
         refine Stk.sq ?_
         refine Stk.sq ?_
         refine Stk.rg ?_
         refine Stk.run 1 (fun t H n => t 1 = .own b1 0 ∧ t 3 = .ssl (encs c36 x5.1) x5.1.length false ∧ t 5 = .sc (.int .i64 v12) ∧ t 6 = .own b16 0 ∧ t 7 = .sc (.int .i64 v25) ∧ t 8 = .own b29 0 ∧ t 9 = .ssl (encs c4 x31) x31.length false ∧ t 10 = .sc (.int .i64 x33.1) ∧ t 11 = .sc (.int .i64 x33.2) ∧ t 12 = .ssl (encs c3 v35) v35.length false ∧ t 45 = .ssl (encs c41 a0.Funs) a0.Funs.length false ∧ t 46 = .sc (.int .i64 (a0.Funs.length : Int)) ∧ t 47 = .sc (.int .i64 v12) ∧ t 84 = .ssl (encs c44 x15.Code) x15.Code.length false ∧ t 85 = .sc (.int .i64 (x15.Code.length : Int)) ∧ t 86 = .sc (.int .i64 v25) ∧ t 132 = .sc (.bool x34.2) ∧ H b1 = some (.cells (c26 a0) 26) ∧ b1 < n ∧ H b16 = some (.cells (c41 x15) 41) ∧ b16 < n ∧ H b29 = some (.cells (c44 x28) 44) ∧ b29 < n ∧ b1 ≠ b16 ∧ b1 ≠ b29 ∧ b16 ≠ b29) (fun J hJ => ?_) ?_
         ·simp [-splice, f1, f3, f5, f6, f7, f8, f9, f10, f11, f12, f13, f45, f46, f47, f84, f85, f86, b_b1, b_b16, b_b29]
          exact hJ _ _ _ ⟨by simp [f1], by simp [f3], by simp [f5], by simp [f6], by simp [f7], by simp [f8], by simp [f9], by simp [f10], by simp [f11], by simp [f12], by simp [f45], by simp [f46], by simp [f47], by simp [f84], by simp [f85], by simp [f86], by simp [-splice, f1, f3, f5, f6, f7, f8, f9, f10, f11, f12, f13, f45, f46, f47, f84, f85, f86, b_b1, b_b16, b_b29], b_b1, l_b1, b_b16, l_b16, b_b29, l_b29, d_b1_b16, d_b1_b29, d_b16_b29⟩
         clear f1 f3 f5 f6 f7 f8 f9 f10 f11 f12 f13 f45 f46 f47 f84 f85 f86 b_b1 l_b1 b_b16 l_b16 b_b29 l_b29 d_b1_b16 d_b1_b29 d_b16_b29
         rintro t H n ⟨f1, f3, f5, f6, f7, f8, f9, f10, f11, f12, f45, f46, f47, f84, f85, f86, f132, b_b1, l_b1, b_b16, l_b16, b_b29, l_b29, d_b1_b16, d_b1_b29, d_b16_b29⟩
         refine Stk.on ?_
         obtain ⟨K11, hK11, h⟩ := jnd h
         refine Stk.jn (fun t H n => ∃ v38 : (List Int), K11 v38 = some r ∧ t 1 = .own b1 0 ∧ t 3 = .ssl (encs c36 x5.1) x5.1.length false ∧ t 5 = .sc (.int .i64 v12) ∧ t 6 = .own b16 0 ∧ t 8 = .own b29 0 ∧ t 9 = .ssl (encs c4 x31) x31.length false ∧ t 10 = .sc (.int .i64 x33.1) ∧ t 11 = .sc (.int .i64 x33.2) ∧ t 12 = .ssl (encs c3 v38) v38.length false ∧ t 45 = .ssl (encs c41 a0.Funs) a0.Funs.length false ∧ t 46 = .sc (.int .i64 (a0.Funs.length : Int)) ∧ t 47 = .sc (.int .i64 v12) ∧ t 84 = .ssl (encs c44 x15.Code) x15.Code.length false ∧ t 85 = .sc (.int .i64 (x15.Code.length : Int)) ∧ t 86 = .sc (.int .i64 v25) ∧ H b1 = some (.cells (c26 a0) 26) ∧ b1 < n ∧ H b16 = some (.cells (c41 x15) 41) ∧ b16 < n ∧ H b29 = some (.cells (c44 x28) 44) ∧ b29 < n ∧ b1 ≠ b16 ∧ b1 ≠ b29 ∧ b16 ≠ b29) trivial (fun J11 hJ11 => ?_) ?_
         ·skip
          refine Stk.cond x34.2 (by exact f132) (fun hb39 => ?_) (fun hb39 => ?_)
          ·have h := cT hb39 h
           refine Stk.rg ?_
           refine Stk.om (mop_buildN (c := c3) (z := 1) T.t47 rfl T.t3 rfl (by decide) rfl (by decide) [] rfl (.nil)) (by simp [f1, f3, f5, f6, f7, f8, f9, f10, f11, f12, f45, f46, f47, f84, f85, f86, f132]) rfl (fun t' ht' => ?_)
           refine Stk.gen (fun t H n => ∃ b40, t 1 = .own b1 0 ∧ t 3 = .ssl (encs c36 x5.1) x5.1.length false ∧ t 5 = .sc (.int .i64 v12) ∧ t 6 = .own b16 0 ∧ t 7 = .sc (.int .i64 v25) ∧ t 8 = .own b29 0 ∧ t 9 = .ssl (encs c4 x31) x31.length false ∧ t 10 = .sc (.int .i64 x33.1) ∧ t 11 = .sc (.int .i64 x33.2) ∧ t 12 = .ssl (encs c3 v35) v35.length false ∧ t 45 = .ssl (encs c41 a0.Funs) a0.Funs.length false ∧ t 46 = .sc (.int .i64 (a0.Funs.length : Int)) ∧ t 47 = .sc (.int .i64 v12) ∧ t 84 = .ssl (encs c44 x15.Code) x15.Code.length false ∧ t 85 = .sc (.int .i64 (x15.Code.length : Int)) ∧ t 86 = .sc (.int .i64 v25) ∧ t 133 = .osl b40 0 ([] : List Int).length (some ([] : List Int).length) ∧ H b1 = some (.cells (c26 a0) 26) ∧ b1 < n ∧ H b16 = some (.cells (c41 x15) 41) ∧ b16 < n ∧ H b29 = some (.cells (c44 x28) 44) ∧ b29 < n ∧ H b40 = some (.cells (encs c3 ([] : List Int)) 3) ∧ b40 < n ∧ b1 ≠ b16 ∧ b1 ≠ b29 ∧ b16 ≠ b29 ∧ b1 ≠ b40 ∧ b16 ≠ b40 ∧ b29 ≠ b40) ⟨n, by simp [ht', f1], by simp [ht', f3], by simp [ht', f5], by simp [ht', f6], by simp [ht', f7], by simp [ht', f8], by simp [ht', f9], by simp [ht', f10], by simp [ht', f11], by simp [ht', f12], by simp [ht', f45], by simp [ht', f46], by simp [ht', f47], by simp [ht', f84], by simp [ht', f85], by simp [ht', f86], by simp [ht'], (upd_ne _ _ (Nat.ne_of_lt l_b1)).trans b_b1, Nat.lt_succ_of_lt l_b1, (upd_ne _ _ (Nat.ne_of_lt l_b16)).trans b_b16, Nat.lt_succ_of_lt l_b16, (upd_ne _ _ (Nat.ne_of_lt l_b29)).trans b_b29, Nat.lt_succ_of_lt l_b29, upd_same _ _ _, Nat.lt_succ_self _, d_b1_b16, d_b1_b29, d_b16_b29, Nat.ne_of_lt l_b1, Nat.ne_of_lt l_b16, Nat.ne_of_lt l_b29⟩ ?_
           clear f1 f3 f5 f6 f7 f8 f9 f10 f11 f12 f45 f46 f47 f84 f85 f86 f132 b_b1 l_b1 b_b16 l_b16 b_b29 l_b29 d_b1_b16 d_b1_b29 d_b16_b29 ht' t'
           rintro t H n ⟨b40, f1, f3, f5, f6, f7, f8, f9, f10, f11, f12, f45, f46, f47, f84, f85, f86, f133, b_b1, l_b1, b_b16, l_b16, b_b29, l_b29, b_b40, l_b40, d_b1_b16, d_b1_b29, d_b16_b29, d_b1_b40, d_b16_b40, d_b29_b40⟩
           refine Stk.run 1 (fun t H n => t 1 = .own b1 0 ∧ t 3 = .ssl (encs c36 x5.1) x5.1.length false ∧ t 5 = .sc (.int .i64 v12) ∧ t 6 = .own b16 0 ∧ t 7 = .sc (.int .i64 v25) ∧ t 8 = .own b29 0 ∧ t 9 = .ssl (encs c4 x31) x31.length false ∧ t 10 = .sc (.int .i64 x33.1) ∧ t 11 = .sc (.int .i64 x33.2) ∧ t 45 = .ssl (encs c41 a0.Funs) a0.Funs.length false ∧ t 46 = .sc (.int .i64 (a0.Funs.length : Int)) ∧ t 47 = .sc (.int .i64 v12) ∧ t 84 = .ssl (encs c44 x15.Code) x15.Code.length false ∧ t 85 = .sc (.int .i64 (x15.Code.length : Int)) ∧ t 86 = .sc (.int .i64 v25) ∧ t 133 = .osl b40 0 ([] : List Int).length (some ([] : List Int).length) ∧ t 134 = .ssl (encs c3 v35) v35.length false ∧ H b1 = some (.cells (c26 a0) 26) ∧ b1 < n ∧ H b16 = some (.cells (c41 x15) 41) ∧ b16 < n ∧ H b29 = some (.cells (c44 x28) 44) ∧ b29 < n ∧ H b40 = some (.cells (encs c3 ([] : List Int)) 3) ∧ b40 < n ∧ b1 ≠ b16 ∧ b1 ≠ b29 ∧ b16 ≠ b29 ∧ b1 ≠ b40 ∧ b16 ≠ b40 ∧ b29 ≠ b40) (fun J hJ => ?_) ?_
           ·simp [-splice, f1, f3, f5, f6, f7, f8, f9, f10, f11, f12, f45, f46, f47, f84, f85, f86, f133, b_b1, b_b16, b_b29, b_b40]
            exact hJ _ _ _ ⟨by simp [f1], by simp [f3], by simp [f5], by simp [f6], by simp [f7], by simp [f8], by simp [f9], by simp [f10], by simp [f11], by simp [f45], by simp [f46], by simp [f47], by simp [f84], by simp [f85], by simp [f86], by simp [f133], by simp [-splice, f1, f3, f5, f6, f7, f8, f9, f10, f11, f12, f45, f46, f47, f84, f85, f86, f133, b_b1, b_b16, b_b29, b_b40], b_b1, l_b1, b_b16, l_b16, b_b29, l_b29, b_b40, l_b40, d_b1_b16, d_b1_b29, d_b16_b29, d_b1_b40, d_b16_b40, d_b29_b40⟩
           clear f1 f3 f5 f6 f7 f8 f9 f10 f11 f12 f45 f46 f47 f84 f85 f86 f133 b_b1 l_b1 b_b16 l_b16 b_b29 l_b29 b_b40 l_b40 d_b1_b16 d_b1_b29 d_b16_b29 d_b1_b40 d_b16_b40 d_b29_b40
           rintro t H n ⟨f1, f3, f5, f6, f7, f8, f9, f10, f11, f45, f46, f47, f84, f85, f86, f133, f134, b_b1, l_b1, b_b16, l_b16, b_b29, l_b29, b_b40, l_b40, d_b1_b16, d_b1_b29, d_b16_b29, d_b1_b40, d_b16_b40, d_b29_b40⟩
           obtain ⟨x41, hx41, h⟩ := bnd h
           obtain ⟨r1x41, r2x41, r3x41⟩ := appM_ok hx41
           obtain ⟨o42, co42, H9, n9, e9, w9, le9, fr9, kp9⟩ := append_ownC (e := c3) (z := 1) (st := 47) T.t47 rfl T.t3 rfl (by decide) rfl (by decide) (ownC_row b_b40) (fun i hi => by cases hi; exact l_b40) (y := .ssl (encs c3 v35) v35.length false) v35 (elems_ssl) (all_encs ok3 _) r1x41 r2x41
           rw [r3x41] at e9 w9
           refine Stk.om ((mop_append T.t47 rfl).trans (by rw [show ev t (.tmp 133) = t 133 from rfl, f133]; rw [show ev t (.tmp 134) = t 134 from rfl, f134];  exact e9)) (by simp [f1, f3, f5, f6, f7, f8, f9, f10, f11, f45, f46, f47, f84, f85, f86, f133, f134]) rfl (fun t' ht' => ?_)
           refine Stk.gen (fun t H n => t 1 = .own b1 0 ∧ t 3 = .ssl (encs c36 x5.1) x5.1.length false ∧ t 5 = .sc (.int .i64 v12) ∧ t 6 = .own b16 0 ∧ t 7 = .sc (.int .i64 v25) ∧ t 8 = .own b29 0 ∧ t 9 = .ssl (encs c4 x31) x31.length false ∧ t 10 = .sc (.int .i64 x33.1) ∧ t 11 = .sc (.int .i64 x33.2) ∧ t 45 = .ssl (encs c41 a0.Funs) a0.Funs.length false ∧ t 46 = .sc (.int .i64 (a0.Funs.length : Int)) ∧ t 47 = .sc (.int .i64 v12) ∧ t 84 = .ssl (encs c44 x15.Code) x15.Code.length false ∧ t 85 = .sc (.int .i64 (x15.Code.length : Int)) ∧ t 86 = .sc (.int .i64 v25) ∧ t 135 = slc o42 x41.length co42 ∧ H b1 = some (.cells (c26 a0) 26) ∧ b1 < n ∧ H b16 = some (.cells (c41 x15) 41) ∧ b16 < n ∧ H b29 = some (.cells (c44 x28) 44) ∧ b29 < n ∧ OwnC H 3 1 c3 o42 co42 x41 ∧ (∀ i, o42 = some i → i < n) ∧ b1 ≠ b16 ∧ b1 ≠ b29 ∧ b16 ≠ b29 ∧ (∀ i, o42 = some i → i ≠ b1) ∧ (∀ i, o42 = some i → i ≠ b16) ∧ (∀ i, o42 = some i → i ≠ b29)) ⟨by simp [ht', f1], by simp [ht', f3], by simp [ht', f5], by simp [ht', f6], by simp [ht', f7], by simp [ht', f8], by simp [ht', f9], by simp [ht', f10], by simp [ht', f11], by simp [ht', f45], by simp [ht', f46], by simp [ht', f47], by simp [ht', f84], by simp [ht', f85], by simp [ht', f86], by simp [ht'], (kp9 _ l_b1 (fun e => d_b1_b40 (Option.some.inj e).symm)).trans b_b1, Nat.lt_of_lt_of_le l_b1 le9, (kp9 _ l_b16 (fun e => d_b16_b40 (Option.some.inj e).symm)).trans b_b16, Nat.lt_of_lt_of_le l_b16 le9, (kp9 _ l_b29 (fun e => d_b29_b40 (Option.some.inj e).symm)).trans b_b29, Nat.lt_of_lt_of_le l_b29 le9, w9, fun i hi => (fr9 i hi).2, d_b1_b16, d_b1_b29, d_b16_b29, fun i hi e => by rcases (fr9 i hi).1 with g | g; exact d_b1_b40 (by rw [← e]; exact (Option.some.inj g).symm); have := l_b1; omega, fun i hi e => by rcases (fr9 i hi).1 with g | g; exact d_b16_b40 (by rw [← e]; exact (Option.some.inj g).symm); have := l_b16; omega, fun i hi e => by rcases (fr9 i hi).1 with g | g; exact d_b29_b40 (by rw [← e]; exact (Option.some.inj g).symm); have := l_b29; omega⟩ ?_
           clear f1 f3 f5 f6 f7 f8 f9 f10 f11 f45 f46 f47 f84 f85 f86 f133 f134 b_b1 l_b1 b_b16 l_b16 b_b29 l_b29 b_b40 l_b40 d_b1_b16 d_b1_b29 d_b16_b29 d_b1_b40 d_b16_b40 d_b29_b40 ht' t'
           rintro t H n ⟨f1, f3, f5, f6, f7, f8, f9, f10, f11, f45, f46, f47, f84, f85, f86, f135, b_b1, l_b1, b_b16, l_b16, b_b29, l_b29, b_o42, l_o42, d_b1_b16, d_b1_b29, d_b16_b29, d_b1_o42, d_b16_o42, d_b29_o42⟩
           refine Stk.run 2 (fun t H n => t 1 = .own b1 0 ∧ t 3 = .ssl (encs c36 x5.1) x5.1.length false ∧ t 5 = .sc (.int .i64 v12) ∧ t 6 = .own b16 0 ∧ t 8 = .own b29 0 ∧ t 9 = .ssl (encs c4 x31) x31.length false ∧ t 10 = .sc (.int .i64 x33.1) ∧ t 11 = .sc (.int .i64 x33.2) ∧ t 45 = .ssl (encs c41 a0.Funs) a0.Funs.length false ∧ t 46 = .sc (.int .i64 (a0.Funs.length : Int)) ∧ t 47 = .sc (.int .i64 v12) ∧ t 84 = .ssl (encs c44 x15.Code) x15.Code.length false ∧ t 85 = .sc (.int .i64 (x15.Code.length : Int)) ∧ t 86 = .sc (.int .i64 v25) ∧ t 135 = slc o42 x41.length co42 ∧ t 137 = .sc (.int .i64 (IntKind.i64.wrap (v25 + 1))) ∧ H b1 = some (.cells (c26 a0) 26) ∧ b1 < n ∧ H b16 = some (.cells (c41 x15) 41) ∧ b16 < n ∧ H b29 = some (.cells (c44 x28) 44) ∧ b29 < n ∧ OwnC H 3 1 c3 o42 co42 x41 ∧ (∀ i, o42 = some i → i < n) ∧ b1 ≠ b16 ∧ b1 ≠ b29 ∧ b16 ≠ b29 ∧ (∀ i, o42 = some i → i ≠ b1) ∧ (∀ i, o42 = some i → i ≠ b16) ∧ (∀ i, o42 = some i → i ≠ b29)) (fun J hJ => ?_) ?_
           ·simp [-splice, f1, f3, f5, f6, f7, f8, f9, f10, f11, f45, f46, f47, f84, f85, f86, f135, b_b1, b_b16, b_b29]
            exact hJ _ _ _ ⟨by simp [f1], by simp [f3], by simp [f5], by simp [f6], by simp [f8], by simp [f9], by simp [f10], by simp [f11], by simp [f45], by simp [f46], by simp [f47], by simp [f84], by simp [f85], by simp [f86], by simp [f135], by simp [-splice, f1, f3, f5, f6, f7, f8, f9, f10, f11, f45, f46, f47, f84, f85, f86, f135, b_b1, b_b16, b_b29], b_b1, l_b1, b_b16, l_b16, b_b29, l_b29, b_o42, l_o42, d_b1_b16, d_b1_b29, d_b16_b29, d_b1_o42, d_b16_o42, d_b29_o42⟩
           clear f1 f3 f5 f6 f7 f8 f9 f10 f11 f45 f46 f47 f84 f85 f86 f135 b_b1 l_b1 b_b16 l_b16 b_b29 l_b29 b_o42 l_o42 d_b1_b16 d_b1_b29 d_b16_b29 d_b1_o42 d_b16_o42 d_b29_o42
           rintro t H n ⟨f1, f3, f5, f6, f8, f9, f10, f11, f45, f46, f47, f84, f85, f86, f135, f137, b_b1, l_b1, b_b16, l_b16, b_b29, l_b29, b_o42, l_o42, d_b1_b16, d_b1_b29, d_b16_b29, d_b1_o42, d_b16_o42, d_b29_o42⟩
           refine Stk.om (mop_buildN (c := c3) (z := 1) T.t47 rfl T.t3 rfl (by decide) rfl (by decide) [(IntKind.i64.wrap (v25 + 1))] rfl (.cons f137 rfl rfl rfl rfl (by simp [length_encs]) (splice_next (c := c3) [] _ (IntKind.i64.wrap (v25 + 1)) rfl (by simp)) (.nil))) (by simp [f1, f3, f5, f6, f8, f9, f10, f11, f45, f46, f47, f84, f85, f86, f135, f137]) rfl (fun t' ht' => ?_)
           refine Stk.gen (fun t H n => ∃ b43, t 1 = .own b1 0 ∧ t 3 = .ssl (encs c36 x5.1) x5.1.length false ∧ t 5 = .sc (.int .i64 v12) ∧ t 6 = .own b16 0 ∧ t 8 = .own b29 0 ∧ t 9 = .ssl (encs c4 x31) x31.length false ∧ t 10 = .sc (.int .i64 x33.1) ∧ t 11 = .sc (.int .i64 x33.2) ∧ t 45 = .ssl (encs c41 a0.Funs) a0.Funs.length false ∧ t 46 = .sc (.int .i64 (a0.Funs.length : Int)) ∧ t 47 = .sc (.int .i64 v12) ∧ t 84 = .ssl (encs c44 x15.Code) x15.Code.length false ∧ t 85 = .sc (.int .i64 (x15.Code.length : Int)) ∧ t 86 = .sc (.int .i64 v25) ∧ t 135 = slc o42 x41.length co42 ∧ t 138 = .osl b43 0 ([(IntKind.i64.wrap (v25 + 1))] : List Int).length (some ([(IntKind.i64.wrap (v25 + 1))] : List Int).length) ∧ H b1 = some (.cells (c26 a0) 26) ∧ b1 < n ∧ H b16 = some (.cells (c41 x15) 41) ∧ b16 < n ∧ H b29 = some (.cells (c44 x28) 44) ∧ b29 < n ∧ H b43 = some (.cells (encs c3 ([(IntKind.i64.wrap (v25 + 1))] : List Int)) 3) ∧ b43 < n ∧ OwnC H 3 1 c3 o42 co42 x41 ∧ (∀ i, o42 = some i → i < n) ∧ b1 ≠ b16 ∧ b1 ≠ b29 ∧ b16 ≠ b29 ∧ b1 ≠ b43 ∧ b16 ≠ b43 ∧ b29 ≠ b43 ∧ (∀ i, o42 = some i → i ≠ b1) ∧ (∀ i, o42 = some i → i ≠ b16) ∧ (∀ i, o42 = some i → i ≠ b29) ∧ (∀ i, o42 = some i → i ≠ b43)) ⟨n, by simp [ht', f1], by simp [ht', f3], by simp [ht', f5], by simp [ht', f6], by simp [ht', f8], by simp [ht', f9], by simp [ht', f10], by simp [ht', f11], by simp [ht', f45], by simp [ht', f46], by simp [ht', f47], by simp [ht', f84], by simp [ht', f85], by simp [ht', f86], by simp [ht', f135], by simp [ht'], (upd_ne _ _ (Nat.ne_of_lt l_b1)).trans b_b1, Nat.lt_succ_of_lt l_b1, (upd_ne _ _ (Nat.ne_of_lt l_b16)).trans b_b16, Nat.lt_succ_of_lt l_b16, (upd_ne _ _ (Nat.ne_of_lt l_b29)).trans b_b29, Nat.lt_succ_of_lt l_b29, upd_same _ _ _, Nat.lt_succ_self _, b_o42.mono (fun i hi => upd_ne _ _ (Nat.ne_of_lt (l_o42 i hi))), fun i hi => Nat.lt_succ_of_lt (l_o42 i hi), d_b1_b16, d_b1_b29, d_b16_b29, Nat.ne_of_lt l_b1, Nat.ne_of_lt l_b16, Nat.ne_of_lt l_b29, d_b1_o42, d_b16_o42, d_b29_o42, fun i hi => Nat.ne_of_lt (l_o42 i hi)⟩ ?_
           clear f1 f3 f5 f6 f8 f9 f10 f11 f45 f46 f47 f84 f85 f86 f135 f137 b_b1 l_b1 b_b16 l_b16 b_b29 l_b29 b_o42 l_o42 d_b1_b16 d_b1_b29 d_b16_b29 d_b1_o42 d_b16_o42 d_b29_o42 ht' t'
           rintro t H n ⟨b43, f1, f3, f5, f6, f8, f9, f10, f11, f45, f46, f47, f84, f85, f86, f135, f138, b_b1, l_b1, b_b16, l_b16, b_b29, l_b29, b_b43, l_b43, b_o42, l_o42, d_b1_b16, d_b1_b29, d_b16_b29, d_b1_b43, d_b16_b43, d_b29_b43, d_b1_o42, d_b16_o42, d_b29_o42, d_b43_o42⟩
           obtain ⟨x44, hx44, h⟩ := bnd h
           obtain ⟨r1x44, r2x44, r3x44⟩ := appM_ok hx44
           obtain ⟨o45, co45, H9, n9, e9, w9, le9, fr9, kp9⟩ := append_ownC (e := c3) (z := 1) (st := 47) T.t47 rfl T.t3 rfl (by decide) rfl (by decide) b_o42 l_o42 (y := .osl b43 0 ([(IntKind.i64.wrap (v25 + 1))] : List Int).length (some ([(IntKind.i64.wrap (v25 + 1))] : List Int).length)) ([(IntKind.i64.wrap (v25 + 1))] : List Int) (elems_row b_b43 _) (all_encs ok3 _) r1x44 r2x44
           rw [r3x44] at e9 w9
           refine Stk.om ((mop_append T.t47 rfl).trans (by rw [show ev t (.tmp 135) = t 135 from rfl, f135]; rw [show ev t (.tmp 138) = t 138 from rfl, f138];  exact e9)) (by simp [f1, f3, f5, f6, f8, f9, f10, f11, f45, f46, f47, f84, f85, f86, f135, f138]) rfl (fun t' ht' => ?_)
           refine Stk.gen (fun t H n => t 1 = .own b1 0 ∧ t 3 = .ssl (encs c36 x5.1) x5.1.length false ∧ t 5 = .sc (.int .i64 v12) ∧ t 6 = .own b16 0 ∧ t 8 = .own b29 0 ∧ t 9 = .ssl (encs c4 x31) x31.length false ∧ t 10 = .sc (.int .i64 x33.1) ∧ t 11 = .sc (.int .i64 x33.2) ∧ t 45 = .ssl (encs c41 a0.Funs) a0.Funs.length false ∧ t 46 = .sc (.int .i64 (a0.Funs.length : Int)) ∧ t 47 = .sc (.int .i64 v12) ∧ t 84 = .ssl (encs c44 x15.Code) x15.Code.length false ∧ t 85 = .sc (.int .i64 (x15.Code.length : Int)) ∧ t 86 = .sc (.int .i64 v25) ∧ t 139 = slc o45 x44.length co45 ∧ H b1 = some (.cells (c26 a0) 26) ∧ b1 < n ∧ H b16 = some (.cells (c41 x15) 41) ∧ b16 < n ∧ H b29 = some (.cells (c44 x28) 44) ∧ b29 < n ∧ OwnC H 3 1 c3 o45 co45 x44 ∧ (∀ i, o45 = some i → i < n) ∧ b1 ≠ b16 ∧ b1 ≠ b29 ∧ b16 ≠ b29 ∧ (∀ i, o45 = some i → i ≠ b1) ∧ (∀ i, o45 = some i → i ≠ b16) ∧ (∀ i, o45 = some i → i ≠ b29)) ⟨by simp [ht', f1], by simp [ht', f3], by simp [ht', f5], by simp [ht', f6], by simp [ht', f8], by simp [ht', f9], by simp [ht', f10], by simp [ht', f11], by simp [ht', f45], by simp [ht', f46], by simp [ht', f47], by simp [ht', f84], by simp [ht', f85], by simp [ht', f86], by simp [ht'], (kp9 _ l_b1 (fun e => d_b1_o42 _ e rfl)).trans b_b1, Nat.lt_of_lt_of_le l_b1 le9, (kp9 _ l_b16 (fun e => d_b16_o42 _ e rfl)).trans b_b16, Nat.lt_of_lt_of_le l_b16 le9, (kp9 _ l_b29 (fun e => d_b29_o42 _ e rfl)).trans b_b29, Nat.lt_of_lt_of_le l_b29 le9, w9, fun i hi => (fr9 i hi).2, d_b1_b16, d_b1_b29, d_b16_b29, fun i hi e => by rcases (fr9 i hi).1 with g | g; exact d_b1_o42 i g e; have := l_b1; omega, fun i hi e => by rcases (fr9 i hi).1 with g | g; exact d_b16_o42 i g e; have := l_b16; omega, fun i hi e => by rcases (fr9 i hi).1 with g | g; exact d_b29_o42 i g e; have := l_b29; omega⟩ ?_
           clear f1 f3 f5 f6 f8 f9 f10 f11 f45 f46 f47 f84 f85 f86 f135 f138 b_b1 l_b1 b_b16 l_b16 b_b29 l_b29 b_b43 l_b43 b_o42 l_o42 d_b1_b16 d_b1_b29 d_b16_b29 d_b1_b43 d_b16_b43 d_b29_b43 d_b1_o42 d_b16_o42 d_b29_o42 d_b43_o42 ht' t'
           rintro t H n ⟨f1, f3, f5, f6, f8, f9, f10, f11, f45, f46, f47, f84, f85, f86, f139, b_b1, l_b1, b_b16, l_b16, b_b29, l_b29, b_o45, l_o45, d_b1_b16, d_b1_b29, d_b16_b29, d_b1_o45, d_b16_o45, d_b29_o45⟩
           refine Stk.run 1 (fun t H n => t 1 = .own b1 0 ∧ t 3 = .ssl (encs c36 x5.1) x5.1.length false ∧ t 5 = .sc (.int .i64 v12) ∧ t 6 = .own b16 0 ∧ t 8 = .own b29 0 ∧ t 9 = .ssl (encs c4 x31) x31.length false ∧ t 10 = .sc (.int .i64 x33.1) ∧ t 11 = .sc (.int .i64 x33.2) ∧ t 12 = slc o45 x44.length co45 ∧ t 45 = .ssl (encs c41 a0.Funs) a0.Funs.length false ∧ t 46 = .sc (.int .i64 (a0.Funs.length : Int)) ∧ t 47 = .sc (.int .i64 v12) ∧ t 84 = .ssl (encs c44 x15.Code) x15.Code.length false ∧ t 85 = .sc (.int .i64 (x15.Code.length : Int)) ∧ t 86 = .sc (.int .i64 v25) ∧ H b1 = some (.cells (c26 a0) 26) ∧ b1 < n ∧ H b16 = some (.cells (c41 x15) 41) ∧ b16 < n ∧ H b29 = some (.cells (c44 x28) 44) ∧ b29 < n ∧ OwnC H 3 1 c3 o45 co45 x44 ∧ (∀ i, o45 = some i → i < n) ∧ b1 ≠ b16 ∧ b1 ≠ b29 ∧ b16 ≠ b29 ∧ (∀ i, o45 = some i → i ≠ b1) ∧ (∀ i, o45 = some i → i ≠ b16) ∧ (∀ i, o45 = some i → i ≠ b29)) (fun J hJ => ?_) ?_
           ·simp [-splice, f1, f3, f5, f6, f8, f9, f10, f11, f45, f46, f47, f84, f85, f86, f139, b_b1, b_b16, b_b29]
            exact hJ _ _ _ ⟨by simp [f1], by simp [f3], by simp [f5], by simp [f6], by simp [f8], by simp [f9], by simp [f10], by simp [f11], by simp [-splice, f1, f3, f5, f6, f8, f9, f10, f11, f45, f46, f47, f84, f85, f86, f139, b_b1, b_b16, b_b29], by simp [f45], by simp [f46], by simp [f47], by simp [f84], by simp [f85], by simp [f86], b_b1, l_b1, b_b16, l_b16, b_b29, l_b29, b_o45, l_o45, d_b1_b16, d_b1_b29, d_b16_b29, d_b1_o45, d_b16_o45, d_b29_o45⟩
           clear f1 f3 f5 f6 f8 f9 f10 f11 f45 f46 f47 f84 f85 f86 f139 b_b1 l_b1 b_b16 l_b16 b_b29 l_b29 b_o45 l_o45 d_b1_b16 d_b1_b29 d_b16_b29 d_b1_o45 d_b16_o45 d_b29_o45
           rintro t H n ⟨f1, f3, f5, f6, f8, f9, f10, f11, f12, f45, f46, f47, f84, f85, f86, b_b1, l_b1, b_b16, l_b16, b_b29, l_b29, b_o45, l_o45, d_b1_b16, d_b1_b29, d_b16_b29, d_b1_o45, d_b16_o45, d_b29_o45⟩
           refine Stk.wkf trivial o45.toList 12 (.ssl (encs c3 x44) x44.length false) (by rw [f12]; exact .inr (.inr (view_ownC fr3 b_o45 (fun i hi => by simp [hi])))) (fun t' H' ht' hH' => ?_)
           refine Stk.gen (fun t H n => t 1 = .own b1 0 ∧ t 3 = .ssl (encs c36 x5.1) x5.1.length false ∧ t 5 = .sc (.int .i64 v12) ∧ t 6 = .own b16 0 ∧ t 8 = .own b29 0 ∧ t 9 = .ssl (encs c4 x31) x31.length false ∧ t 10 = .sc (.int .i64 x33.1) ∧ t 11 = .sc (.int .i64 x33.2) ∧ t 12 = .ssl (encs c3 x44) x44.length false ∧ t 45 = .ssl (encs c41 a0.Funs) a0.Funs.length false ∧ t 46 = .sc (.int .i64 (a0.Funs.length : Int)) ∧ t 47 = .sc (.int .i64 v12) ∧ t 84 = .ssl (encs c44 x15.Code) x15.Code.length false ∧ t 85 = .sc (.int .i64 (x15.Code.length : Int)) ∧ t 86 = .sc (.int .i64 v25) ∧ H b1 = some (.cells (c26 a0) 26) ∧ b1 < n ∧ H b16 = some (.cells (c41 x15) 41) ∧ b16 < n ∧ H b29 = some (.cells (c44 x28) 44) ∧ b29 < n ∧ b1 ≠ b16 ∧ b1 ≠ b29 ∧ b16 ≠ b29) ⟨by simp [ht', f1], by simp [ht', f3], by simp [ht', f5], by simp [ht', f6], by simp [ht', f8], by simp [ht', f9], by simp [ht', f10], by simp [ht', f11], by simp [ht', f12], by simp [ht', f45], by simp [ht', f46], by simp [ht', f47], by simp [ht', f84], by simp [ht', f85], by simp [ht', f86], (hH' _ (by simp; exact fun e => d_b1_o45 _ e rfl)).trans b_b1, l_b1, (hH' _ (by simp; exact fun e => d_b16_o45 _ e rfl)).trans b_b16, l_b16, (hH' _ (by simp; exact fun e => d_b29_o45 _ e rfl)).trans b_b29, l_b29, d_b1_b16, d_b1_b29, d_b16_b29⟩ ?_
           clear f1 f3 f5 f6 f8 f9 f10 f11 f12 f45 f46 f47 f84 f85 f86 b_b1 l_b1 b_b16 l_b16 b_b29 l_b29 b_o45 l_o45 d_b1_b16 d_b1_b29 d_b16_b29 d_b1_o45 d_b16_o45 d_b29_o45 hH' ht' t' H'
           rintro t H n ⟨f1, f3, f5, f6, f8, f9, f10, f11, f12, f45, f46, f47, f84, f85, f86, b_b1, l_b1, b_b16, l_b16, b_b29, l_b29, d_b1_b16, d_b1_b29, d_b16_b29⟩
           refine Stk.on ?_
           exact Stk.ln 0 (by decide) (hJ11 _ _ _ ⟨x44, h, f1, f3, f5, f6, f8, f9, f10, f11, f12, f45, f46, f47, f84, f85, f86, b_b1, l_b1, b_b16, l_b16, b_b29, l_b29, d_b1_b16, d_b1_b29, d_b16_b29⟩)
          ·have h := cF hb39 h
           refine Stk.sk ?_
           exact Stk.ln 0 (by decide) (hJ11 _ _ _ ⟨v35, h, f1, f3, f5, f6, f8, f9, f10, f11, f12, f45, f46, f47, f84, f85, f86, b_b1, l_b1, b_b16, l_b16, b_b29, l_b29, d_b1_b16, d_b1_b29, d_b16_b29⟩)
         clear h f1 f3 f5 f6 f7 f8 f9 f10 f11 f12 f45 f46 f47 f84 f85 f86 f132 b_b1 l_b1 b_b16 l_b16 b_b29 l_b29 d_b1_b16 d_b1_b29 d_b16_b29
         rintro t H n ⟨v38, h, f1, f3, f5, f6, f8, f9, f10, f11, f12, f45, f46, f47, f84, f85, f86, b_b1, l_b1, b_b16, l_b16, b_b29, l_b29, d_b1_b16, d_b1_b29, d_b16_b29⟩
         subst hK11
         refine Stk.sq ?_
         refine Stk.rg ?_
         refine Stk.run 3 (fun t H n => t 1 = .own b1 0 ∧ t 3 = .ssl (encs c36 x5.1) x5.1.length false ∧ t 5 = .sc (.int .i64 v12) ∧ t 6 = .own b16 0 ∧ t 8 = .own b29 0 ∧ t 9 = .ssl (encs c4 x31) x31.length false ∧ t 10 = .sc (.int .i64 x33.1) ∧ t 11 = .sc (.int .i64 x33.2) ∧ t 45 = .ssl (encs c41 a0.Funs) a0.Funs.length false ∧ t 46 = .sc (.int .i64 (a0.Funs.length : Int)) ∧ t 47 = .sc (.int .i64 v12) ∧ t 84 = .ssl (encs c44 x15.Code) x15.Code.length false ∧ t 85 = .sc (.int .i64 (x15.Code.length : Int)) ∧ t 86 = .sc (.int .i64 v25) ∧ t 140 = .ssl (encs c3 v38) v38.length false ∧ t 141 = .sc (.int .i64 (v38.length : Int)) ∧ t 142 = .sc (.int .i64 0) ∧ H b1 = some (.cells (c26 a0) 26) ∧ b1 < n ∧ H b16 = some (.cells (c41 x15) 41) ∧ b16 < n ∧ H b29 = some (.cells (c44 x28) 44) ∧ b29 < n ∧ b1 ≠ b16 ∧ b1 ≠ b29 ∧ b16 ≠ b29) (fun J hJ => ?_) ?_
         ·simp [-splice, f1, f3, f5, f6, f8, f9, f10, f11, f12, f45, f46, f47, f84, f85, f86, b_b1, b_b16, b_b29]
          exact hJ _ _ _ ⟨by simp [f1], by simp [f3], by simp [f5], by simp [f6], by simp [f8], by simp [f9], by simp [f10], by simp [f11], by simp [f45], by simp [f46], by simp [f47], by simp [f84], by simp [f85], by simp [f86], by simp [-splice, f1, f3, f5, f6, f8, f9, f10, f11, f12, f45, f46, f47, f84, f85, f86, b_b1, b_b16, b_b29], by simp [-splice, f1, f3, f5, f6, f8, f9, f10, f11, f12, f45, f46, f47, f84, f85, f86, b_b1, b_b16, b_b29], by simp [-splice, f1, f3, f5, f6, f8, f9, f10, f11, f12, f45, f46, f47, f84, f85, f86, b_b1, b_b16, b_b29], b_b1, l_b1, b_b16, l_b16, b_b29, l_b29, d_b1_b16, d_b1_b29, d_b16_b29⟩
         clear f1 f3 f5 f6 f8 f9 f10 f11 f12 f45 f46 f47 f84 f85 f86 b_b1 l_b1 b_b16 l_b16 b_b29 l_b29 d_b1_b16 d_b1_b29 d_b16_b29
         rintro t H n ⟨f1, f3, f5, f6, f8, f9, f10, f11, f45, f46, f47, f84, f85, f86, f140, f141, f142, b_b1, l_b1, b_b16, l_b16, b_b29, l_b29, d_b1_b16, d_b1_b29, d_b16_b29⟩
         refine Stk.on ?_
         obtain ⟨K12, hK12, h⟩ := jnd h
         refine Stk.jn (fun t H n => K12 () = some r ∧ t 1 = .own b1 0 ∧ t 3 = .ssl (encs c36 x5.1) x5.1.length false ∧ t 5 = .sc (.int .i64 v12) ∧ t 6 = .own b16 0 ∧ t 45 = .ssl (encs c41 a0.Funs) a0.Funs.length false ∧ t 46 = .sc (.int .i64 (a0.Funs.length : Int)) ∧ t 47 = .sc (.int .i64 v12) ∧ t 84 = .ssl (encs c44 x15.Code) x15.Code.length false ∧ t 85 = .sc (.int .i64 (x15.Code.length : Int)) ∧ t 86 = .sc (.int .i64 v25) ∧ H b1 = some (.cells (c26 a0) 26) ∧ b1 < n ∧ H b16 = some (.cells (c41 x15) 41) ∧ b16 < n ∧ b1 ≠ b16) trivial (fun J12 hJ12 => ?_) ?_
         ·skip
          refine Stk.bk ?_
          refine Stk.lo (fun μ t H n => ∃ v46 : Int, L21_FlowSteps_L2 F x5 v12 x15 x28 x31 x33 v38 K12 μ v46 = some r ∧ t 1 = .own b1 0 ∧ t 3 = .ssl (encs c36 x5.1) x5.1.length false ∧ t 5 = .sc (.int .i64 v12) ∧ t 6 = .own b16 0 ∧ t 8 = .own b29 0 ∧ t 9 = .ssl (encs c4 x31) x31.length false ∧ t 10 = .sc (.int .i64 x33.1) ∧ t 11 = .sc (.int .i64 x33.2) ∧ t 45 = .ssl (encs c41 a0.Funs) a0.Funs.length false ∧ t 46 = .sc (.int .i64 (a0.Funs.length : Int)) ∧ t 47 = .sc (.int .i64 v12) ∧ t 84 = .ssl (encs c44 x15.Code) x15.Code.length false ∧ t 85 = .sc (.int .i64 (x15.Code.length : Int)) ∧ t 86 = .sc (.int .i64 v25) ∧ t 140 = .ssl (encs c3 v38) v38.length false ∧ t 141 = .sc (.int .i64 (v38.length : Int)) ∧ t 142 = .sc (.int .i64 v46) ∧ H b1 = some (.cells (c26 a0) 26) ∧ b1 < n ∧ H b16 = some (.cells (c41 x15) 41) ∧ b16 < n ∧ H b29 = some (.cells (c44 x28) 44) ∧ b29 < n ∧ b1 ≠ b16 ∧ b1 ≠ b29 ∧ b16 ≠ b29) F ⟨0, h, f1, f3, f5, f6, f8, f9, f10, f11, f45, f46, f47, f84, f85, f86, f140, f141, f142, b_b1, l_b1, b_b16, l_b16, b_b29, l_b29, d_b1_b16, d_b1_b29, d_b16_b29⟩ ?_
          clear h f1 f3 f5 f6 f8 f9 f10 f11 f45 f46 f47 f84 f85 f86 f140 f141 f142 b_b1 l_b1 b_b16 l_b16 b_b29 l_b29 d_b1_b16 d_b1_b29 d_b16_b29
          rintro J13 hJ13 μ t H n ⟨v46, h, f1, f3, f5, f6, f8, f9, f10, f11, f45, f46, f47, f84, f85, f86, f140, f141, f142, b_b1, l_b1, b_b16, l_b16, b_b29, l_b29, d_b1_b16, d_b1_b29, d_b16_b29⟩
          cases μ with
          | zero => exact absurd h (by simp [L21_FlowSteps_L2])
          | succ μ =>
          rw [L21_FlowSteps_L2] at h
          refine Stk.sq ?_
          refine Stk.rg ?_
          refine Stk.run 1 (fun t H n => t 1 = .own b1 0 ∧ t 3 = .ssl (encs c36 x5.1) x5.1.length false ∧ t 5 = .sc (.int .i64 v12) ∧ t 6 = .own b16 0 ∧ t 8 = .own b29 0 ∧ t 9 = .ssl (encs c4 x31) x31.length false ∧ t 10 = .sc (.int .i64 x33.1) ∧ t 11 = .sc (.int .i64 x33.2) ∧ t 45 = .ssl (encs c41 a0.Funs) a0.Funs.length false ∧ t 46 = .sc (.int .i64 (a0.Funs.length : Int)) ∧ t 47 = .sc (.int .i64 v12) ∧ t 84 = .ssl (encs c44 x15.Code) x15.Code.length false ∧ t 85 = .sc (.int .i64 (x15.Code.length : Int)) ∧ t 86 = .sc (.int .i64 v25) ∧ t 140 = .ssl (encs c3 v38) v38.length false ∧ t 141 = .sc (.int .i64 (v38.length : Int)) ∧ t 142 = .sc (.int .i64 v46) ∧ t 143 = .sc (.bool (decide (v46 < (v38.length : Int)))) ∧ H b1 = some (.cells (c26 a0) 26) ∧ b1 < n ∧ H b16 = some (.cells (c41 x15) 41) ∧ b16 < n ∧ H b29 = some (.cells (c44 x28) 44) ∧ b29 < n ∧ b1 ≠ b16 ∧ b1 ≠ b29 ∧ b16 ≠ b29) (fun J hJ => ?_) ?_
          ·simp [-splice, f1, f3, f5, f6, f8, f9, f10, f11, f45, f46, f47, f84, f85, f86, f140, f141, f142, b_b1, b_b16, b_b29]
           exact hJ _ _ _ ⟨by simp [f1], by simp [f3], by simp [f5], by simp [f6], by simp [f8], by simp [f9], by simp [f10], by simp [f11], by simp [f45], by simp [f46], by simp [f47], by simp [f84], by simp [f85], by simp [f86], by simp [f140], by simp [f141], by simp [f142], by simp [-splice, f1, f3, f5, f6, f8, f9, f10, f11, f45, f46, f47, f84, f85, f86, f140, f141, f142, b_b1, b_b16, b_b29], b_b1, l_b1, b_b16, l_b16, b_b29, l_b29, d_b1_b16, d_b1_b29, d_b16_b29⟩
          clear f1 f3 f5 f6 f8 f9 f10 f11 f45 f46 f47 f84 f85 f86 f140 f141 f142 b_b1 l_b1 b_b16 l_b16 b_b29 l_b29 d_b1_b16 d_b1_b29 d_b16_b29
          rintro t H n ⟨f1, f3, f5, f6, f8, f9, f10, f11, f45, f46, f47, f84, f85, f86, f140, f141, f142, f143, b_b1, l_b1, b_b16, l_b16, b_b29, l_b29, d_b1_b16, d_b1_b29, d_b16_b29⟩
          refine Stk.on ?_
          refine Stk.sq ?_
          refine Stk.cond (decide (v46 < (v38.length : Int))) (by exact f143) (fun hb48 => ?_) (fun hb48 => ?_)
          ·have h := cT hb48 h
           refine Stk.sk ?_
           refine Stk.sq ?_
           refine Stk.bk ?_
           refine Stk.sq ?_
           refine Stk.rg ?_
           obtain ⟨x49, hx49, h⟩ := bnd h
           obtain ⟨i0x49, i1x49, i2x49, _⟩ := idx_ok hx49
           have ex49_0_3 : partOf T.T 3 (encs c3 v38) (v46.toNat) = some (.sc (.int .i64 x49)) := by
             have e0 := part_elem0 (e := c3) (z := 1) (T := T.T) (ty := 3) T.t3 (by decide) (by decide) hx49 0 (by decide)
             (try simp only [Nat.mul_one, Nat.add_zero] at e0)
             exact e0.trans rfl
           refine Stk.run 3 (fun t H n => t 1 = .own b1 0 ∧ t 3 = .ssl (encs c36 x5.1) x5.1.length false ∧ t 5 = .sc (.int .i64 v12) ∧ t 6 = .own b16 0 ∧ t 8 = .own b29 0 ∧ t 9 = .ssl (encs c4 x31) x31.length false ∧ t 10 = .sc (.int .i64 x33.1) ∧ t 11 = .sc (.int .i64 x33.2) ∧ t 15 = .sc (.int .i64 x49) ∧ t 45 = .ssl (encs c41 a0.Funs) a0.Funs.length false ∧ t 46 = .sc (.int .i64 (a0.Funs.length : Int)) ∧ t 47 = .sc (.int .i64 v12) ∧ t 84 = .ssl (encs c44 x15.Code) x15.Code.length false ∧ t 85 = .sc (.int .i64 (x15.Code.length : Int)) ∧ t 86 = .sc (.int .i64 v25) ∧ t 140 = .ssl (encs c3 v38) v38.length false ∧ t 141 = .sc (.int .i64 (v38.length : Int)) ∧ t 142 = .sc (.int .i64 v46) ∧ H b1 = some (.cells (c26 a0) 26) ∧ b1 < n ∧ H b16 = some (.cells (c41 x15) 41) ∧ b16 < n ∧ H b29 = some (.cells (c44 x28) 44) ∧ b29 < n ∧ b1 ≠ b16 ∧ b1 ≠ b29 ∧ b16 ≠ b29) (fun J hJ => ?_) ?_
           ·simp [-splice, f1, f3, f5, f6, f8, f9, f10, f11, f45, f46, f47, f84, f85, f86, f140, f141, f142, f143, b_b1, b_b16, b_b29, i0x49, i1x49, pd3, ex49_0_3]
            exact hJ _ _ _ ⟨by simp [f1], by simp [f3], by simp [f5], by simp [f6], by simp [f8], by simp [f9], by simp [f10], by simp [f11], by simp [-splice, f1, f3, f5, f6, f8, f9, f10, f11, f45, f46, f47, f84, f85, f86, f140, f141, f142, f143, b_b1, b_b16, b_b29, i0x49, i1x49, pd3, ex49_0_3], by simp [f45], by simp [f46], by simp [f47], by simp [f84], by simp [f85], by simp [f86], by simp [f140], by simp [f141], by simp [f142], b_b1, l_b1, b_b16, l_b16, b_b29, l_b29, d_b1_b16, d_b1_b29, d_b16_b29⟩
           clear f1 f3 f5 f6 f8 f9 f10 f11 f45 f46 f47 f84 f85 f86 f140 f141 f142 f143 b_b1 l_b1 b_b16 l_b16 b_b29 l_b29 d_b1_b16 d_b1_b29 d_b16_b29
           rintro t H n ⟨f1, f3, f5, f6, f8, f9, f10, f11, f15, f45, f46, f47, f84, f85, f86, f140, f141, f142, b_b1, l_b1, b_b16, l_b16, b_b29, l_b29, d_b1_b16, d_b1_b29, d_b16_b29⟩
           refine Stk.on ?_
           refine Stk.sq ?_
           obtain ⟨n0, hn0⟩ : ∃ m, m = n := ⟨n, rfl⟩
           have ln0 : n0 ≤ n := Nat.le_of_eq hn0
           refine Stk.rgD [.rd [], .rd [], .rd [], .rd [], .rd [], .rd [b16], .rd [], .rd [], .rd [], .rd [], .rd [], .rd [], .rd [], .rd [], .rd [], .rd [], .rd [], .rd [], .rd [], .rd [b29], .rd [], .rd [], .rd [], .rd []] none (by kernel_rfl) (by rfl) rfl (by simp [below, hn0, l_b1, hn0, l_b16, hn0, l_b29]) rfl ?_
           refine Stk.runD 3 (fun t H n => t 1 = .own b1 0 ∧ t 3 = .ssl (encs c36 x5.1) x5.1.length false ∧ t 5 = .sc (.int .i64 v12) ∧ t 6 = .own b16 0 ∧ t 8 = .own b29 0 ∧ t 9 = .ssl (encs c4 x31) x31.length false ∧ t 10 = .sc (.int .i64 x33.1) ∧ t 11 = .sc (.int .i64 x33.2) ∧ t 15 = .sc (.int .i64 x49) ∧ t 45 = .ssl (encs c41 a0.Funs) a0.Funs.length false ∧ t 46 = .sc (.int .i64 (a0.Funs.length : Int)) ∧ t 47 = .sc (.int .i64 v12) ∧ t 84 = .ssl (encs c44 x15.Code) x15.Code.length false ∧ t 85 = .sc (.int .i64 (x15.Code.length : Int)) ∧ t 86 = .sc (.int .i64 v25) ∧ t 140 = .ssl (encs c3 v38) v38.length false ∧ t 141 = .sc (.int .i64 (v38.length : Int)) ∧ t 142 = .sc (.int .i64 v46) ∧ t 148 = .sc (.bool (decide (0 ≤ x49))) ∧ H b1 = some (.cells (c26 a0) 26) ∧ b1 < n ∧ H b16 = some (.cells (c41 x15) 41) ∧ b16 < n ∧ H b29 = some (.cells (c44 x28) 44) ∧ b29 < n ∧ b1 ≠ b16 ∧ b1 ≠ b29 ∧ b16 ≠ b29 ∧ n0 ≤ n) (fun J hJ => ?_) ?_
           ·simp [-splice, f1, f3, f5, f6, f8, f9, f10, f11, f15, f45, f46, f47, f84, f85, f86, f140, f141, f142, b_b1, b_b16, b_b29]
            exact hJ _ _ _ ⟨by simp [f1], by simp [f3], by simp [f5], by simp [f6], by simp [f8], by simp [f9], by simp [f10], by simp [f11], by simp [f15], by simp [f45], by simp [f46], by simp [f47], by simp [f84], by simp [f85], by simp [f86], by simp [f140], by simp [f141], by simp [f142], by simp [-splice, f1, f3, f5, f6, f8, f9, f10, f11, f15, f45, f46, f47, f84, f85, f86, f140, f141, f142, b_b1, b_b16, b_b29], b_b1, l_b1, b_b16, l_b16, b_b29, l_b29, d_b1_b16, d_b1_b29, d_b16_b29, ln0⟩
           clear f1 f3 f5 f6 f8 f9 f10 f11 f15 f45 f46 f47 f84 f85 f86 f140 f141 f142 b_b1 l_b1 b_b16 l_b16 b_b29 l_b29 d_b1_b16 d_b1_b29 d_b16_b29 ln0
           rintro t H n ⟨f1, f3, f5, f6, f8, f9, f10, f11, f15, f45, f46, f47, f84, f85, f86, f140, f141, f142, f148, b_b1, l_b1, b_b16, l_b16, b_b29, l_b29, d_b1_b16, d_b1_b29, d_b16_b29, ln0⟩
           obtain ⟨K14, hK14, h⟩ := jnd h
           refine Stk.jd 21 (fun t H n => ∃ v50 : Bool, K14 v50 = some r ∧ t 1 = .own b1 0 ∧ t 3 = .ssl (encs c36 x5.1) x5.1.length false ∧ t 5 = .sc (.int .i64 v12) ∧ t 6 = .own b16 0 ∧ t 8 = .own b29 0 ∧ t 9 = .ssl (encs c4 x31) x31.length false ∧ t 10 = .sc (.int .i64 x33.1) ∧ t 11 = .sc (.int .i64 x33.2) ∧ t 45 = .ssl (encs c41 a0.Funs) a0.Funs.length false ∧ t 46 = .sc (.int .i64 (a0.Funs.length : Int)) ∧ t 47 = .sc (.int .i64 v12) ∧ t 84 = .ssl (encs c44 x15.Code) x15.Code.length false ∧ t 85 = .sc (.int .i64 (x15.Code.length : Int)) ∧ t 86 = .sc (.int .i64 v25) ∧ t 140 = .ssl (encs c3 v38) v38.length false ∧ t 141 = .sc (.int .i64 (v38.length : Int)) ∧ t 142 = .sc (.int .i64 v46) ∧ t 169 = .sc (.bool v50) ∧ H b1 = some (.cells (c26 a0) 26) ∧ b1 < n ∧ H b16 = some (.cells (c41 x15) 41) ∧ b16 < n ∧ H b29 = some (.cells (c44 x28) 44) ∧ b29 < n ∧ b1 ≠ b16 ∧ b1 ≠ b29 ∧ b16 ≠ b29) (fun J14 hJ14 => ?_) ?_
           ·rcases Bool.eq_false_or_eq_true (decide (0 ≤ x49)) with hb14 | hb14
            ·rw [hb14] at f148
             replace h := cT hb14 h
             refine Stk.runD 6 (fun t H n => t 1 = .own b1 0 ∧ t 3 = .ssl (encs c36 x5.1) x5.1.length false ∧ t 5 = .sc (.int .i64 v12) ∧ t 6 = .own b16 0 ∧ t 8 = .own b29 0 ∧ t 9 = .ssl (encs c4 x31) x31.length false ∧ t 10 = .sc (.int .i64 x33.1) ∧ t 11 = .sc (.int .i64 x33.2) ∧ t 15 = .sc (.int .i64 x49) ∧ t 45 = .ssl (encs c41 a0.Funs) a0.Funs.length false ∧ t 46 = .sc (.int .i64 (a0.Funs.length : Int)) ∧ t 47 = .sc (.int .i64 v12) ∧ t 84 = .ssl (encs c44 x15.Code) x15.Code.length false ∧ t 85 = .sc (.int .i64 (x15.Code.length : Int)) ∧ t 86 = .sc (.int .i64 v25) ∧ t 140 = .ssl (encs c3 v38) v38.length false ∧ t 141 = .sc (.int .i64 (v38.length : Int)) ∧ t 142 = .sc (.int .i64 v46) ∧ t 148 = .sc (.bool true) ∧ t 154 = .sc (.bool (decide ((x15.Code.length : Int) ≤ x49))) ∧ H b1 = some (.cells (c26 a0) 26) ∧ b1 < n ∧ H b16 = some (.cells (c41 x15) 41) ∧ b16 < n ∧ H b29 = some (.cells (c44 x28) 44) ∧ b29 < n ∧ b1 ≠ b16 ∧ b1 ≠ b29 ∧ b16 ≠ b29 ∧ n0 ≤ n) (fun J hJ => ?_) ?_
             ·simp [-splice, f1, f3, f5, f6, f8, f9, f10, f11, f15, f45, f46, f47, f84, f85, f86, f140, f141, f142, f148, b_b1, b_b16, b_b29, ld_41_3_39]
              exact hJ _ _ _ ⟨by simp [f1], by simp [f3], by simp [f5], by simp [f6], by simp [f8], by simp [f9], by simp [f10], by simp [f11], by simp [f15], by simp [f45], by simp [f46], by simp [f47], by simp [f84], by simp [f85], by simp [f86], by simp [f140], by simp [f141], by simp [f142], by simp [f148], by simp [-splice, f1, f3, f5, f6, f8, f9, f10, f11, f15, f45, f46, f47, f84, f85, f86, f140, f141, f142, f148, b_b1, b_b16, b_b29, ld_41_3_39], b_b1, l_b1, b_b16, l_b16, b_b29, l_b29, d_b1_b16, d_b1_b29, d_b16_b29, ln0⟩
             clear f1 f3 f5 f6 f8 f9 f10 f11 f15 f45 f46 f47 f84 f85 f86 f140 f141 f142 f148 b_b1 l_b1 b_b16 l_b16 b_b29 l_b29 d_b1_b16 d_b1_b29 d_b16_b29 ln0
             rintro t H n ⟨f1, f3, f5, f6, f8, f9, f10, f11, f15, f45, f46, f47, f84, f85, f86, f140, f141, f142, f148, f154, b_b1, l_b1, b_b16, l_b16, b_b29, l_b29, d_b1_b16, d_b1_b29, d_b16_b29, ln0⟩
             obtain ⟨K15, hK15, h⟩ := jnd h
             refine Stk.jd 14 (fun t H n => ∃ v51 : Bool, K15 v51 = some r ∧ t 1 = .own b1 0 ∧ t 3 = .ssl (encs c36 x5.1) x5.1.length false ∧ t 5 = .sc (.int .i64 v12) ∧ t 6 = .own b16 0 ∧ t 8 = .own b29 0 ∧ t 9 = .ssl (encs c4 x31) x31.length false ∧ t 10 = .sc (.int .i64 x33.1) ∧ t 11 = .sc (.int .i64 x33.2) ∧ t 45 = .ssl (encs c41 a0.Funs) a0.Funs.length false ∧ t 46 = .sc (.int .i64 (a0.Funs.length : Int)) ∧ t 47 = .sc (.int .i64 v12) ∧ t 84 = .ssl (encs c44 x15.Code) x15.Code.length false ∧ t 85 = .sc (.int .i64 (x15.Code.length : Int)) ∧ t 86 = .sc (.int .i64 v25) ∧ t 140 = .ssl (encs c3 v38) v38.length false ∧ t 141 = .sc (.int .i64 (v38.length : Int)) ∧ t 142 = .sc (.int .i64 v46) ∧ t 148 = .sc (.bool true) ∧ t 168 = .sc (.bool v51) ∧ H b1 = some (.cells (c26 a0) 26) ∧ b1 < n ∧ H b16 = some (.cells (c41 x15) 41) ∧ b16 < n ∧ H b29 = some (.cells (c44 x28) 44) ∧ b29 < n ∧ b1 ≠ b16 ∧ b1 ≠ b29 ∧ b16 ≠ b29) (fun J15 hJ15 => ?_) ?_
             ·rcases Bool.eq_false_or_eq_true (decide ((x15.Code.length : Int) ≤ x49)) with hb15 | hb15
              ·rw [hb15] at f154
               replace h := cT hb15 h
               refine Stk.runD 14 (fun t H n => t 1 = .own b1 0 ∧ t 3 = .ssl (encs c36 x5.1) x5.1.length false ∧ t 5 = .sc (.int .i64 v12) ∧ t 6 = .own b16 0 ∧ t 8 = .own b29 0 ∧ t 9 = .ssl (encs c4 x31) x31.length false ∧ t 10 = .sc (.int .i64 x33.1) ∧ t 11 = .sc (.int .i64 x33.2) ∧ t 45 = .ssl (encs c41 a0.Funs) a0.Funs.length false ∧ t 46 = .sc (.int .i64 (a0.Funs.length : Int)) ∧ t 47 = .sc (.int .i64 v12) ∧ t 84 = .ssl (encs c44 x15.Code) x15.Code.length false ∧ t 85 = .sc (.int .i64 (x15.Code.length : Int)) ∧ t 86 = .sc (.int .i64 v25) ∧ t 140 = .ssl (encs c3 v38) v38.length false ∧ t 141 = .sc (.int .i64 (v38.length : Int)) ∧ t 142 = .sc (.int .i64 v46) ∧ t 148 = .sc (.bool true) ∧ t 168 = .sc (.bool true) ∧ H b1 = some (.cells (c26 a0) 26) ∧ b1 < n ∧ H b16 = some (.cells (c41 x15) 41) ∧ b16 < n ∧ H b29 = some (.cells (c44 x28) 44) ∧ b29 < n ∧ b1 ≠ b16 ∧ b1 ≠ b29 ∧ b16 ≠ b29 ∧ n0 ≤ n) (fun J hJ => ?_) ?_
               ·simp [-splice, f1, f3, f5, f6, f8, f9, f10, f11, f15, f45, f46, f47, f84, f85, f86, f140, f141, f142, f148, f154, b_b1, b_b16, b_b29]
                exact hJ _ _ _ ⟨by simp [f1], by simp [f3], by simp [f5], by simp [f6], by simp [f8], by simp [f9], by simp [f10], by simp [f11], by simp [f45], by simp [f46], by simp [f47], by simp [f84], by simp [f85], by simp [f86], by simp [f140], by simp [f141], by simp [f142], by simp [f148], by simp [-splice, f1, f3, f5, f6, f8, f9, f10, f11, f15, f45, f46, f47, f84, f85, f86, f140, f141, f142, f148, f154, b_b1, b_b16, b_b29], b_b1, l_b1, b_b16, l_b16, b_b29, l_b29, d_b1_b16, d_b1_b29, d_b16_b29, ln0⟩
               clear f1 f3 f5 f6 f8 f9 f10 f11 f15 f45 f46 f47 f84 f85 f86 f140 f141 f142 f148 f154 b_b1 l_b1 b_b16 l_b16 b_b29 l_b29 d_b1_b16 d_b1_b29 d_b16_b29 ln0
               rintro t H n ⟨f1, f3, f5, f6, f8, f9, f10, f11, f45, f46, f47, f84, f85, f86, f140, f141, f142, f148, f168, b_b1, l_b1, b_b16, l_b16, b_b29, l_b29, d_b1_b16, d_b1_b29, d_b16_b29, ln0⟩
               refine Stk.onD ?_
               exact Stk.ln 0 (by decide) (hJ15 _ _ _ ⟨true, h, f1, f3, f5, f6, f8, f9, f10, f11, f45, f46, f47, f84, f85, f86, f140, f141, f142, f148, f168, b_b1, l_b1, b_b16, l_b16, b_b29, l_b29, d_b1_b16, d_b1_b29, d_b16_b29⟩)
              ·rw [hb15] at f154
               replace h := cF hb15 h
               obtain ⟨x52, hx52, h⟩ := bnd h
               obtain ⟨i0x52, i1x52, i2x52, _⟩ := idx_ok hx52
               have ex52_0_36 : partOf T.T 36 (encs c36 x5.1) (v12.toNat) = some (.ssl (encs c42 x52) x52.length false) := by
                 have e0 := part_elem0 (e := c36) (z := 1) (T := T.T) (ty := 36) T.t36 (by decide) (by decide) hx52 0 (by decide)
                 (try simp only [Nat.mul_one, Nat.add_zero] at e0)
                 exact e0.trans rfl
               obtain ⟨x53, hx53, h⟩ := bnd h
               obtain ⟨i0x53, i1x53, i2x53, _⟩ := idx_ok hx53
               have ex53_0_42 : partOf T.T 42 (encs c42 x52) (x49.toNat) = some (.ssl (encs c4 x53) x53.length false) := by
                 have e0 := part_elem0 (e := c42) (z := 1) (T := T.T) (ty := 42) T.t42 (by decide) (by decide) hx53 0 (by decide)
                 (try simp only [Nat.mul_one, Nat.add_zero] at e0)
                 exact e0.trans rfl
               refine Stk.runD 11 (fun t H n => t 1 = .own b1 0 ∧ t 3 = .ssl (encs c36 x5.1) x5.1.length false ∧ t 5 = .sc (.int .i64 v12) ∧ t 6 = .own b16 0 ∧ t 8 = .own b29 0 ∧ t 9 = .ssl (encs c4 x31) x31.length false ∧ t 10 = .sc (.int .i64 x33.1) ∧ t 11 = .sc (.int .i64 x33.2) ∧ t 45 = .ssl (encs c41 a0.Funs) a0.Funs.length false ∧ t 46 = .sc (.int .i64 (a0.Funs.length : Int)) ∧ t 47 = .sc (.int .i64 v12) ∧ t 84 = .ssl (encs c44 x15.Code) x15.Code.length false ∧ t 85 = .sc (.int .i64 (x15.Code.length : Int)) ∧ t 86 = .sc (.int .i64 v25) ∧ t 140 = .ssl (encs c3 v38) v38.length false ∧ t 141 = .sc (.int .i64 (v38.length : Int)) ∧ t 142 = .sc (.int .i64 v46) ∧ t 148 = .sc (.bool true) ∧ t 154 = .sc (.bool false) ∧ t 155 = .ssl (encs c4 x31) x31.length false ∧ t 162 = .ssl (encs c4 x53) x53.length false ∧ t 163 = .sc (.int .i64 x33.1) ∧ t 164 = .sc (.int .i64 x33.2) ∧ t 165 = .agg (c44 x28) ∧ H b1 = some (.cells (c26 a0) 26) ∧ b1 < n ∧ H b16 = some (.cells (c41 x15) 41) ∧ b16 < n ∧ H b29 = some (.cells (c44 x28) 44) ∧ b29 < n ∧ b1 ≠ b16 ∧ b1 ≠ b29 ∧ b16 ≠ b29 ∧ n0 ≤ n) (fun J hJ => ?_) ?_
               ·simp [-splice, f1, f3, f5, f6, f8, f9, f10, f11, f15, f45, f46, f47, f84, f85, f86, f140, f141, f142, f148, f154, b_b1, b_b16, b_b29, i0x52, i1x52, pd36, ex52_0_36, i0x53, i1x53, pd42, ex53_0_42, ld_44_0_44]
                exact hJ _ _ _ ⟨by simp [f1], by simp [f3], by simp [f5], by simp [f6], by simp [f8], by simp [f9], by simp [f10], by simp [f11], by simp [f45], by simp [f46], by simp [f47], by simp [f84], by simp [f85], by simp [f86], by simp [f140], by simp [f141], by simp [f142], by simp [f148], by simp [f154], by simp [-splice, f1, f3, f5, f6, f8, f9, f10, f11, f15, f45, f46, f47, f84, f85, f86, f140, f141, f142, f148, f154, b_b1, b_b16, b_b29, i0x52, i1x52, pd36, ex52_0_36, i0x53, i1x53, pd42, ex53_0_42, ld_44_0_44], by simp [-splice, f1, f3, f5, f6, f8, f9, f10, f11, f15, f45, f46, f47, f84, f85, f86, f140, f141, f142, f148, f154, b_b1, b_b16, b_b29, i0x52, i1x52, pd36, ex52_0_36, i0x53, i1x53, pd42, ex53_0_42, ld_44_0_44], by simp [-splice, f1, f3, f5, f6, f8, f9, f10, f11, f15, f45, f46, f47, f84, f85, f86, f140, f141, f142, f148, f154, b_b1, b_b16, b_b29, i0x52, i1x52, pd36, ex52_0_36, i0x53, i1x53, pd42, ex53_0_42, ld_44_0_44], by simp [-splice, f1, f3, f5, f6, f8, f9, f10, f11, f15, f45, f46, f47, f84, f85, f86, f140, f141, f142, f148, f154, b_b1, b_b16, b_b29, i0x52, i1x52, pd36, ex52_0_36, i0x53, i1x53, pd42, ex53_0_42, ld_44_0_44], by simp [-splice, f1, f3, f5, f6, f8, f9, f10, f11, f15, f45, f46, f47, f84, f85, f86, f140, f141, f142, f148, f154, b_b1, b_b16, b_b29, i0x52, i1x52, pd36, ex52_0_36, i0x53, i1x53, pd42, ex53_0_42, ld_44_0_44], b_b1, l_b1, b_b16, l_b16, b_b29, l_b29, d_b1_b16, d_b1_b29, d_b16_b29, ln0⟩
               clear f1 f3 f5 f6 f8 f9 f10 f11 f15 f45 f46 f47 f84 f85 f86 f140 f141 f142 f148 f154 b_b1 l_b1 b_b16 l_b16 b_b29 l_b29 d_b1_b16 d_b1_b29 d_b16_b29 ln0
               rintro t H n ⟨f1, f3, f5, f6, f8, f9, f10, f11, f45, f46, f47, f84, f85, f86, f140, f141, f142, f148, f154, f155, f162, f163, f164, f165, b_b1, l_b1, b_b16, l_b16, b_b29, l_b29, d_b1_b16, d_b1_b29, d_b16_b29, ln0⟩
               obtain ⟨x54, hx54, h⟩ := bnd h
               refine Stk.cvD (g := 16) (args := [.ssl (encs c4 x31) x31.length false, .ssl (encs c4 x53) x53.length false, .sc (.int .i64 x33.1), .sc (.int .i64 x33.2), .agg (c44 x28)]) (args' := [.ssl (encs c4 x31) x31.length false, .ssl (encs c4 x53) x53.length false, .sc (.int .i64 x33.1), .sc (.int .i64 x33.2), .agg (c44 x28)]) (v := .sc (.bool x54)) [] (ok_L21_leads F _ _ _ _ _ _ hx54) rfl (by simp) rfl (by simp [f1, f3, f5, f6, f8, f9, f10, f11, f45, f46, f47, f84, f85, f86, f140, f141, f142, f148, f154, f155, f162, f163, f164, f165]) rfl rfl (by simp [f1, f3, f5, f6, f8, f9, f10, f11, f45, f46, f47, f84, f85, f86, f140, f141, f142, f148, f154, f155, f162, f163, f164, f165]) (.cons (.free (freeL_encs fr4 _)) (.cons (.free (freeL_encs fr4 _)) (.cons (.free (rfl)) (.cons (.free (rfl)) (.cons (.free (fr44 _)) (.nil)))))) (.inl ⟨rfl, rfl⟩) (fun t' ht' => ?_)
               refine Stk.gen (fun t H n => t 1 = .own b1 0 ∧ t 3 = .ssl (encs c36 x5.1) x5.1.length false ∧ t 5 = .sc (.int .i64 v12) ∧ t 6 = .own b16 0 ∧ t 8 = .own b29 0 ∧ t 9 = .ssl (encs c4 x31) x31.length false ∧ t 10 = .sc (.int .i64 x33.1) ∧ t 11 = .sc (.int .i64 x33.2) ∧ t 45 = .ssl (encs c41 a0.Funs) a0.Funs.length false ∧ t 46 = .sc (.int .i64 (a0.Funs.length : Int)) ∧ t 47 = .sc (.int .i64 v12) ∧ t 84 = .ssl (encs c44 x15.Code) x15.Code.length false ∧ t 85 = .sc (.int .i64 (x15.Code.length : Int)) ∧ t 86 = .sc (.int .i64 v25) ∧ t 140 = .ssl (encs c3 v38) v38.length false ∧ t 141 = .sc (.int .i64 (v38.length : Int)) ∧ t 142 = .sc (.int .i64 v46) ∧ t 148 = .sc (.bool true) ∧ t 154 = .sc (.bool false) ∧ t 166 = .sc (.bool x54) ∧ H b1 = some (.cells (c26 a0) 26) ∧ b1 < n ∧ H b16 = some (.cells (c41 x15) 41) ∧ b16 < n ∧ H b29 = some (.cells (c44 x28) 44) ∧ b29 < n ∧ b1 ≠ b16 ∧ b1 ≠ b29 ∧ b16 ≠ b29 ∧ n0 ≤ n) ⟨by simp [ht', f1], by simp [ht', f3], by simp [ht', f5], by simp [ht', f6], by simp [ht', f8], by simp [ht', f9], by simp [ht', f10], by simp [ht', f11], by simp [ht', f45], by simp [ht', f46], by simp [ht', f47], by simp [ht', f84], by simp [ht', f85], by simp [ht', f86], by simp [ht', f140], by simp [ht', f141], by simp [ht', f142], by simp [ht', f148], by simp [ht', f154], by simp [ht'], b_b1, l_b1, b_b16, l_b16, b_b29, l_b29, d_b1_b16, d_b1_b29, d_b16_b29, ln0⟩ ?_
               clear f1 f3 f5 f6 f8 f9 f10 f11 f45 f46 f47 f84 f85 f86 f140 f141 f142 f148 f154 f155 f162 f163 f164 f165 b_b1 l_b1 b_b16 l_b16 b_b29 l_b29 d_b1_b16 d_b1_b29 d_b16_b29 ln0 ht' t'
               rintro t H n ⟨f1, f3, f5, f6, f8, f9, f10, f11, f45, f46, f47, f84, f85, f86, f140, f141, f142, f148, f154, f166, b_b1, l_b1, b_b16, l_b16, b_b29, l_b29, d_b1_b16, d_b1_b29, d_b16_b29, ln0⟩
               refine Stk.runD 2 (fun t H n => t 1 = .own b1 0 ∧ t 3 = .ssl (encs c36 x5.1) x5.1.length false ∧ t 5 = .sc (.int .i64 v12) ∧ t 6 = .own b16 0 ∧ t 8 = .own b29 0 ∧ t 9 = .ssl (encs c4 x31) x31.length false ∧ t 10 = .sc (.int .i64 x33.1) ∧ t 11 = .sc (.int .i64 x33.2) ∧ t 45 = .ssl (encs c41 a0.Funs) a0.Funs.length false ∧ t 46 = .sc (.int .i64 (a0.Funs.length : Int)) ∧ t 47 = .sc (.int .i64 v12) ∧ t 84 = .ssl (encs c44 x15.Code) x15.Code.length false ∧ t 85 = .sc (.int .i64 (x15.Code.length : Int)) ∧ t 86 = .sc (.int .i64 v25) ∧ t 140 = .ssl (encs c3 v38) v38.length false ∧ t 141 = .sc (.int .i64 (v38.length : Int)) ∧ t 142 = .sc (.int .i64 v46) ∧ t 148 = .sc (.bool true) ∧ t 168 = .sc (.bool (!x54)) ∧ H b1 = some (.cells (c26 a0) 26) ∧ b1 < n ∧ H b16 = some (.cells (c41 x15) 41) ∧ b16 < n ∧ H b29 = some (.cells (c44 x28) 44) ∧ b29 < n ∧ b1 ≠ b16 ∧ b1 ≠ b29 ∧ b16 ≠ b29 ∧ n0 ≤ n) (fun J hJ => ?_) ?_
               ·simp [-splice, f1, f3, f5, f6, f8, f9, f10, f11, f45, f46, f47, f84, f85, f86, f140, f141, f142, f148, f154, f166, b_b1, b_b16, b_b29]
                exact hJ _ _ _ ⟨by simp [f1], by simp [f3], by simp [f5], by simp [f6], by simp [f8], by simp [f9], by simp [f10], by simp [f11], by simp [f45], by simp [f46], by simp [f47], by simp [f84], by simp [f85], by simp [f86], by simp [f140], by simp [f141], by simp [f142], by simp [f148], by simp [-splice, f1, f3, f5, f6, f8, f9, f10, f11, f45, f46, f47, f84, f85, f86, f140, f141, f142, f148, f154, f166, b_b1, b_b16, b_b29], b_b1, l_b1, b_b16, l_b16, b_b29, l_b29, d_b1_b16, d_b1_b29, d_b16_b29, ln0⟩
               clear f1 f3 f5 f6 f8 f9 f10 f11 f45 f46 f47 f84 f85 f86 f140 f141 f142 f148 f154 f166 b_b1 l_b1 b_b16 l_b16 b_b29 l_b29 d_b1_b16 d_b1_b29 d_b16_b29 ln0
               rintro t H n ⟨f1, f3, f5, f6, f8, f9, f10, f11, f45, f46, f47, f84, f85, f86, f140, f141, f142, f148, f168, b_b1, l_b1, b_b16, l_b16, b_b29, l_b29, d_b1_b16, d_b1_b29, d_b16_b29, ln0⟩
               refine Stk.onD ?_
               exact Stk.ln 0 (by decide) (hJ15 _ _ _ ⟨(!x54), h, f1, f3, f5, f6, f8, f9, f10, f11, f45, f46, f47, f84, f85, f86, f140, f141, f142, f148, f168, b_b1, l_b1, b_b16, l_b16, b_b29, l_b29, d_b1_b16, d_b1_b29, d_b16_b29⟩)
             clear h f1 f3 f5 f6 f8 f9 f10 f11 f15 f45 f46 f47 f84 f85 f86 f140 f141 f142 f148 f154 b_b1 l_b1 b_b16 l_b16 b_b29 l_b29 d_b1_b16 d_b1_b29 d_b16_b29 ln0
             rintro t H n ⟨v51, h, f1, f3, f5, f6, f8, f9, f10, f11, f45, f46, f47, f84, f85, f86, f140, f141, f142, f148, f168, b_b1, l_b1, b_b16, l_b16, b_b29, l_b29, d_b1_b16, d_b1_b29, d_b16_b29⟩
             subst hK15
             refine Stk.runD 1 (fun t H n => t 1 = .own b1 0 ∧ t 3 = .ssl (encs c36 x5.1) x5.1.length false ∧ t 5 = .sc (.int .i64 v12) ∧ t 6 = .own b16 0 ∧ t 8 = .own b29 0 ∧ t 9 = .ssl (encs c4 x31) x31.length false ∧ t 10 = .sc (.int .i64 x33.1) ∧ t 11 = .sc (.int .i64 x33.2) ∧ t 45 = .ssl (encs c41 a0.Funs) a0.Funs.length false ∧ t 46 = .sc (.int .i64 (a0.Funs.length : Int)) ∧ t 47 = .sc (.int .i64 v12) ∧ t 84 = .ssl (encs c44 x15.Code) x15.Code.length false ∧ t 85 = .sc (.int .i64 (x15.Code.length : Int)) ∧ t 86 = .sc (.int .i64 v25) ∧ t 140 = .ssl (encs c3 v38) v38.length false ∧ t 141 = .sc (.int .i64 (v38.length : Int)) ∧ t 142 = .sc (.int .i64 v46) ∧ t 169 = .sc (.bool v51) ∧ H b1 = some (.cells (c26 a0) 26) ∧ b1 < n ∧ H b16 = some (.cells (c41 x15) 41) ∧ b16 < n ∧ H b29 = some (.cells (c44 x28) 44) ∧ b29 < n ∧ b1 ≠ b16 ∧ b1 ≠ b29 ∧ b16 ≠ b29) (fun J hJ => ?_) ?_
             ·simp [-splice, f1, f3, f5, f6, f8, f9, f10, f11, f45, f46, f47, f84, f85, f86, f140, f141, f142, f148, f168, b_b1, b_b16, b_b29]
              exact hJ _ _ _ ⟨by simp [f1], by simp [f3], by simp [f5], by simp [f6], by simp [f8], by simp [f9], by simp [f10], by simp [f11], by simp [f45], by simp [f46], by simp [f47], by simp [f84], by simp [f85], by simp [f86], by simp [f140], by simp [f141], by simp [f142], by simp [-splice, f1, f3, f5, f6, f8, f9, f10, f11, f45, f46, f47, f84, f85, f86, f140, f141, f142, f148, f168, b_b1, b_b16, b_b29], b_b1, l_b1, b_b16, l_b16, b_b29, l_b29, d_b1_b16, d_b1_b29, d_b16_b29⟩
             clear f1 f3 f5 f6 f8 f9 f10 f11 f45 f46 f47 f84 f85 f86 f140 f141 f142 f148 f168 b_b1 l_b1 b_b16 l_b16 b_b29 l_b29 d_b1_b16 d_b1_b29 d_b16_b29
             rintro t H n ⟨f1, f3, f5, f6, f8, f9, f10, f11, f45, f46, f47, f84, f85, f86, f140, f141, f142, f169, b_b1, l_b1, b_b16, l_b16, b_b29, l_b29, d_b1_b16, d_b1_b29, d_b16_b29⟩
             refine Stk.onD ?_
             exact Stk.ln 0 (by decide) (hJ14 _ _ _ ⟨v51, h, f1, f3, f5, f6, f8, f9, f10, f11, f45, f46, f47, f84, f85, f86, f140, f141, f142, f169, b_b1, l_b1, b_b16, l_b16, b_b29, l_b29, d_b1_b16, d_b1_b29, d_b16_b29⟩)
            ·rw [hb14] at f148
             replace h := cF hb14 h
             refine Stk.runD 21 (fun t H n => t 1 = .own b1 0 ∧ t 3 = .ssl (encs c36 x5.1) x5.1.length false ∧ t 5 = .sc (.int .i64 v12) ∧ t 6 = .own b16 0 ∧ t 8 = .own b29 0 ∧ t 9 = .ssl (encs c4 x31) x31.length false ∧ t 10 = .sc (.int .i64 x33.1) ∧ t 11 = .sc (.int .i64 x33.2) ∧ t 45 = .ssl (encs c41 a0.Funs) a0.Funs.length false ∧ t 46 = .sc (.int .i64 (a0.Funs.length : Int)) ∧ t 47 = .sc (.int .i64 v12) ∧ t 84 = .ssl (encs c44 x15.Code) x15.Code.length false ∧ t 85 = .sc (.int .i64 (x15.Code.length : Int)) ∧ t 86 = .sc (.int .i64 v25) ∧ t 140 = .ssl (encs c3 v38) v38.length false ∧ t 141 = .sc (.int .i64 (v38.length : Int)) ∧ t 142 = .sc (.int .i64 v46) ∧ t 169 = .sc (.bool false) ∧ H b1 = some (.cells (c26 a0) 26) ∧ b1 < n ∧ H b16 = some (.cells (c41 x15) 41) ∧ b16 < n ∧ H b29 = some (.cells (c44 x28) 44) ∧ b29 < n ∧ b1 ≠ b16 ∧ b1 ≠ b29 ∧ b16 ≠ b29 ∧ n0 ≤ n) (fun J hJ => ?_) ?_
             ·simp [-splice, f1, f3, f5, f6, f8, f9, f10, f11, f15, f45, f46, f47, f84, f85, f86, f140, f141, f142, f148, b_b1, b_b16, b_b29]
              exact hJ _ _ _ ⟨by simp [f1], by simp [f3], by simp [f5], by simp [f6], by simp [f8], by simp [f9], by simp [f10], by simp [f11], by simp [f45], by simp [f46], by simp [f47], by simp [f84], by simp [f85], by simp [f86], by simp [f140], by simp [f141], by simp [f142], by simp [-splice, f1, f3, f5, f6, f8, f9, f10, f11, f15, f45, f46, f47, f84, f85, f86, f140, f141, f142, f148, b_b1, b_b16, b_b29], b_b1, l_b1, b_b16, l_b16, b_b29, l_b29, d_b1_b16, d_b1_b29, d_b16_b29, ln0⟩
             clear f1 f3 f5 f6 f8 f9 f10 f11 f15 f45 f46 f47 f84 f85 f86 f140 f141 f142 f148 b_b1 l_b1 b_b16 l_b16 b_b29 l_b29 d_b1_b16 d_b1_b29 d_b16_b29 ln0
             rintro t H n ⟨f1, f3, f5, f6, f8, f9, f10, f11, f45, f46, f47, f84, f85, f86, f140, f141, f142, f169, b_b1, l_b1, b_b16, l_b16, b_b29, l_b29, d_b1_b16, d_b1_b29, d_b16_b29, ln0⟩
             refine Stk.onD ?_
             exact Stk.ln 0 (by decide) (hJ14 _ _ _ ⟨false, h, f1, f3, f5, f6, f8, f9, f10, f11, f45, f46, f47, f84, f85, f86, f140, f141, f142, f169, b_b1, l_b1, b_b16, l_b16, b_b29, l_b29, d_b1_b16, d_b1_b29, d_b16_b29⟩)
           clear h f1 f3 f5 f6 f8 f9 f10 f11 f15 f45 f46 f47 f84 f85 f86 f140 f141 f142 f148 b_b1 l_b1 b_b16 l_b16 b_b29 l_b29 d_b1_b16 d_b1_b29 d_b16_b29 ln0
           rintro t H n ⟨v50, h, f1, f3, f5, f6, f8, f9, f10, f11, f45, f46, f47, f84, f85, f86, f140, f141, f142, f169, b_b1, l_b1, b_b16, l_b16, b_b29, l_b29, d_b1_b16, d_b1_b29, d_b16_b29⟩
           subst hK14
           refine Stk.onD ?_
           refine Stk.cond v50 (by exact f169) (fun hb55 => ?_) (fun hb55 => ?_)
           ·have h := cT hb55 h
            refine Stk.sq ?_
            refine Stk.rg ?_
            refine Stk.run 1 (fun t H n => t 2 = .sc (.bool false)) (fun J hJ => ?_) ?_
            ·simp [-splice, f1, f3, f5, f6, f8, f9, f10, f11, f45, f46, f47, f84, f85, f86, f140, f141, f142, f169, b_b1, b_b16, b_b29]
             exact hJ _ _ _ (by simp [-splice, f1, f3, f5, f6, f8, f9, f10, f11, f45, f46, f47, f84, f85, f86, f140, f141, f142, f169, b_b1, b_b16, b_b29])
            clear f1 f3 f5 f6 f8 f9 f10 f11 f45 f46 f47 f84 f85 f86 f140 f141 f142 f169 b_b1 l_b1 b_b16 l_b16 b_b29 l_b29 d_b1_b16 d_b1_b29 d_b16_b29
            rintro t H n f2
            refine Stk.on ?_
            refine Stk.rt ?_
            have hq := Option.some.inj h; subst hq
            exact (hr _ _ _ (.sc (.bool false)) ([]) (by simp [f2]) (.inr (.inr (.free (rfl))))).1
           ·have h := cF hb55 h
            refine Stk.sk ?_
            refine Stk.bn ?_
            refine Stk.rg ?_
            refine Stk.run 2 (fun t H n => t 1 = .own b1 0 ∧ t 3 = .ssl (encs c36 x5.1) x5.1.length false ∧ t 5 = .sc (.int .i64 v12) ∧ t 6 = .own b16 0 ∧ t 8 = .own b29 0 ∧ t 9 = .ssl (encs c4 x31) x31.length false ∧ t 10 = .sc (.int .i64 x33.1) ∧ t 11 = .sc (.int .i64 x33.2) ∧ t 45 = .ssl (encs c41 a0.Funs) a0.Funs.length false ∧ t 46 = .sc (.int .i64 (a0.Funs.length : Int)) ∧ t 47 = .sc (.int .i64 v12) ∧ t 84 = .ssl (encs c44 x15.Code) x15.Code.length false ∧ t 85 = .sc (.int .i64 (x15.Code.length : Int)) ∧ t 86 = .sc (.int .i64 v25) ∧ t 140 = .ssl (encs c3 v38) v38.length false ∧ t 141 = .sc (.int .i64 (v38.length : Int)) ∧ t 142 = .sc (.int .i64 (IntKind.i64.wrap (v46 + 1))) ∧ H b1 = some (.cells (c26 a0) 26) ∧ b1 < n ∧ H b16 = some (.cells (c41 x15) 41) ∧ b16 < n ∧ H b29 = some (.cells (c44 x28) 44) ∧ b29 < n ∧ b1 ≠ b16 ∧ b1 ≠ b29 ∧ b16 ≠ b29) (fun J hJ => ?_) ?_
            ·simp [-splice, f1, f3, f5, f6, f8, f9, f10, f11, f45, f46, f47, f84, f85, f86, f140, f141, f142, f169, b_b1, b_b16, b_b29]
             exact hJ _ _ _ ⟨by simp [f1], by simp [f3], by simp [f5], by simp [f6], by simp [f8], by simp [f9], by simp [f10], by simp [f11], by simp [f45], by simp [f46], by simp [f47], by simp [f84], by simp [f85], by simp [f86], by simp [f140], by simp [f141], by simp [-splice, f1, f3, f5, f6, f8, f9, f10, f11, f45, f46, f47, f84, f85, f86, f140, f141, f142, f169, b_b1, b_b16, b_b29], b_b1, l_b1, b_b16, l_b16, b_b29, l_b29, d_b1_b16, d_b1_b29, d_b16_b29⟩
            clear f1 f3 f5 f6 f8 f9 f10 f11 f45 f46 f47 f84 f85 f86 f140 f141 f142 f169 b_b1 l_b1 b_b16 l_b16 b_b29 l_b29 d_b1_b16 d_b1_b29 d_b16_b29
            rintro t H n ⟨f1, f3, f5, f6, f8, f9, f10, f11, f45, f46, f47, f84, f85, f86, f140, f141, f142, b_b1, l_b1, b_b16, l_b16, b_b29, l_b29, d_b1_b16, d_b1_b29, d_b16_b29⟩
            refine Stk.on ?_
            exact Stk.ln μ (Nat.lt_succ_self _) (hJ13 _ _ _ _ ⟨(IntKind.i64.wrap (v46 + 1)), h, f1, f3, f5, f6, f8, f9, f10, f11, f45, f46, f47, f84, f85, f86, f140, f141, f142, b_b1, l_b1, b_b16, l_b16, b_b29, l_b29, d_b1_b16, d_b1_b29, d_b16_b29⟩)
          ·have h := cF hb48 h
           refine Stk.ex rfl ?_
           exact Stk.ln 0 (by decide) (hJ12 _ _ _ ⟨h, f1, f3, f5, f6, f45, f46, f47, f84, f85, f86, b_b1, l_b1, b_b16, l_b16, d_b1_b16⟩)
         clear h f1 f3 f5 f6 f8 f9 f10 f11 f45 f46 f47 f84 f85 f86 f140 f141 f142 b_b1 l_b1 b_b16 l_b16 b_b29 l_b29 d_b1_b16 d_b1_b29 d_b16_b29
         rintro t H n ⟨h, f1, f3, f5, f6, f45, f46, f47, f84, f85, f86, b_b1, l_b1, b_b16, l_b16, d_b1_b16⟩
         subst hK12
         refine Stk.bn ?_
         refine Stk.rg ?_
         refine Stk.run 2 (fun t H n => t 1 = .own b1 0 ∧ t 3 = .ssl (encs c36 x5.1) x5.1.length false ∧ t 5 = .sc (.int .i64 v12) ∧ t 6 = .own b16 0 ∧ t 45 = .ssl (encs c41 a0.Funs) a0.Funs.length false ∧ t 46 = .sc (.int .i64 (a0.Funs.length : Int)) ∧ t 47 = .sc (.int .i64 v12) ∧ t 84 = .ssl (encs c44 x15.Code) x15.Code.length false ∧ t 85 = .sc (.int .i64 (x15.Code.length : Int)) ∧ t 86 = .sc (.int .i64 (IntKind.i64.wrap (v25 + 1))) ∧ H b1 = some (.cells (c26 a0) 26) ∧ b1 < n ∧ H b16 = some (.cells (c41 x15) 41) ∧ b16 < n ∧ b1 ≠ b16) (fun J hJ => ?_) ?_
         ·simp [-splice, f1, f3, f5, f6, f45, f46, f47, f84, f85, f86, b_b1, b_b16]
          exact hJ _ _ _ ⟨by simp [f1], by simp [f3], by simp [f5], by simp [f6], by simp [f45], by simp [f46], by simp [f47], by simp [f84], by simp [f85], by simp [-splice, f1, f3, f5, f6, f45, f46, f47, f84, f85, f86, b_b1, b_b16], b_b1, l_b1, b_b16, l_b16, d_b1_b16⟩
         clear f1 f3 f5 f6 f45 f46 f47 f84 f85 f86 b_b1 l_b1 b_b16 l_b16 d_b1_b16
         rintro t H n ⟨f1, f3, f5, f6, f45, f46, f47, f84, f85, f86, b_b1, l_b1, b_b16, l_b16, d_b1_b16⟩
         refine Stk.on ?_
         exact Stk.ln μ (Nat.lt_succ_self _) (hJ7 _ _ _ _ ⟨(IntKind.i64.wrap (v25 + 1)), h, f1, f3, f5, f6, f45, f46, f47, f84, f85, f86, b_b1, l_b1, b_b16, l_b16, d_b1_b16⟩)
       ·have h := cF hb27 h
        refine Stk.ex rfl ?_
        exact Stk.ln 0 (by decide) (hJ6 _ _ _ ⟨h, f1, f3, f45, f46, f47, b_b1, l_b1⟩)
      clear h f1 f3 f5 f6 f45 f46 f47 f84 f85 f86 b_b1 l_b1 b_b16 l_b16 d_b1_b16
      rintro t H n ⟨h, f1, f3, f45, f46, f47, b_b1, l_b1⟩
      subst hK6
      refine Stk.bn ?_
      refine Stk.rg ?_
      refine Stk.run 2 (fun t H n => t 1 = .own b1 0 ∧ t 3 = .ssl (encs c36 x5.1) x5.1.length false ∧ t 45 = .ssl (encs c41 a0.Funs) a0.Funs.length false ∧ t 46 = .sc (.int .i64 (a0.Funs.length : Int)) ∧ t 47 = .sc (.int .i64 (IntKind.i64.wrap (v12 + 1))) ∧ H b1 = some (.cells (c26 a0) 26) ∧ b1 < n) (fun J hJ => ?_) ?_
      ·simp [-splice, f1, f3, f45, f46, f47, b_b1]
       exact hJ _ _ _ ⟨by simp [f1], by simp [f3], by simp [f45], by simp [f46], by simp [-splice, f1, f3, f45, f46, f47, b_b1], b_b1, l_b1⟩
      clear f1 f3 f45 f46 f47 b_b1 l_b1
      rintro t H n ⟨f1, f3, f45, f46, f47, b_b1, l_b1⟩
      refine Stk.on ?_
      exact Stk.ln μ (Nat.lt_succ_self _) (hJ3 _ _ _ _ ⟨(IntKind.i64.wrap (v12 + 1)), h, f1, f3, f45, f46, f47, b_b1, l_b1⟩)
    ·have h := cF hb14 h
     refine Stk.ex rfl ?_
     refine Stk.sq ?_
     refine Stk.rg ?_
     obtain ⟨x56, hx56, h⟩ := bnd h
     refine Stk.cv (g := 7) (args := []) (args' := []) (v := .sc (.bool x56)) [] (ok_L21_awake F  _ hx56) (by simp [f1, f3, f45, f46, f47, f48]) rfl rfl (by simp [f1, f3, f45, f46, f47, f48]) (.nil) (.inl ⟨rfl, rfl⟩) (fun t' ht' => ?_)
     refine Stk.gen (fun t H n => t 173 = .sc (.bool x56)) (by simp [ht']) ?_
     clear f1 f3 f45 f46 f47 f48 b_b1 l_b1 ht' t'
     rintro t H n f173
     refine Stk.run 1 (fun t H n => t 2 = .sc (.bool x56)) (fun J hJ => ?_) ?_
     ·simp [-splice, f173]
      exact hJ _ _ _ (by simp [-splice, f173])
     clear f173
     rintro t H n f2
     refine Stk.on ?_
     refine Stk.rt ?_
     have hq := Option.some.inj h; subst hq
     exact (hr _ _ _ (.sc (.bool x56)) ([]) (by simp [f2]) (.inr (.inr (.free (rfl))))).1
end Go.Proofs.Ytcdafogfmijcpaa.M
