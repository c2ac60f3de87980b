/-
 The functions come to them.
-/
import Derived.Test.YtcdafogfmijcpaaFaM
import Derived.Test.YtcdafogfmijcpaaFaW0
import Derived.Test.YtcdafogfmijcpaaFaMB
namespace Go.Proofs.Ytcdafogfmijcpaa.M
open Go.Proofs.YtcdafogfmijcpaaW.Ah Go.Proofs.Ytcdafogfmijcpaa
set_option linter.unusedVariables false
set_option linter.unusedSimpArgs false
set_option maxRecDepth 8000
attribute [local simp] T.t3 T.t4 T.t9 T.t22 T.t23 T.t24 T.t26 T.t39 T.t41 T.t44 T.t47 T.t51 List.range List.range.loop
attribute [-simp] appendAV fillAV
theorem ok_inst_Fit (F : Nat) (a0 : api_Inst) (r : Bool) (h : inst_Fit F a0 = some r) : RunF Try.prog T.T 42 [.agg (c44 a0)] (.sc (.bool r)) := by
 cases h; exact Flo.fitI_fit a0

theorem ok_code_fitFunc_1 (F : Nat) (a0 : api_Inst) (r : Bool) (h : code_fitFunc_1 F a0 = some r) : RunF Try.prog T.T 41 [.agg (c44 a0)] (.sc (.bool r)) := by
 rw [code_fitFunc_1] at h
 refine RunF.z Try.func41 rfl rfl rfl rfl rfl (fun C hr => ?_)
 refine Stk.gen (fun t H n => t 0 = .agg (c44 a0)) (by simp) ?_
 rintro t H n f0
 refine Stk.sq ?_
 refine Stk.rg ?_
 refine Stk.om (mop_box T.t44 (cs := c44 a0) (by show partOk (t 0) = true; rw [f0]; rfl) (by show cellsOf (t 0) = _; rw [f0]; rfl)) (by simp [f0]) rfl (fun t' ht' => ?_)
 refine Stk.gen (fun t H n => ∃ b1, t 1 = .own b1 0 ∧ H b1 = some (.cells (c44 a0) 44) ∧ b1 < n) ⟨n, by simp [ht'], upd_same _ _ _, Nat.lt_succ_self _⟩ ?_
 clear f0 ht' t'
 rintro t H n ⟨b1, f1, b_b1, l_b1⟩
 refine Stk.run 1 (fun t H n => t 1 = .own b1 0 ∧ H b1 = some (.cells (c44 a0) 44) ∧ b1 < n) (fun J hJ => ?_) ?_
 ·simp [-splice, f1, b_b1]
  exact hJ _ _ _ ⟨by simp [f1], b_b1, l_b1⟩
 clear f1 b_b1 l_b1
 rintro t H n ⟨f1, b_b1, l_b1⟩
 refine Stk.on ?_
 refine Stk.sq ?_
 refine Stk.rg ?_
 refine Stk.run 1 (fun t H n => t 3 = .agg (c44 a0)) (fun J hJ => ?_) ?_
 ·simp [-splice, f1, b_b1, ld_44_0_44]
  exact hJ _ _ _ (by simp [-splice, f1, b_b1, ld_44_0_44])
 clear f1 b_b1 l_b1
 rintro t H n f3
 obtain ⟨x2, hx2, h⟩ := bnd h
 refine Stk.cv (g := 42) (args := [.agg (c44 a0)]) (args' := [.agg (c44 a0)]) (v := .sc (.bool x2)) [] (ok_inst_Fit F _ _ hx2) (by simp [f3]) rfl rfl (by simp [f3]) (.cons (.free (fr44 _)) (.nil)) (.inl ⟨rfl, rfl⟩) (fun t' ht' => ?_)
 refine Stk.gen (fun t H n => t 4 = .sc (.bool x2)) (by simp [ht']) ?_
 clear f3 ht' t'
 rintro t H n f4
 refine Stk.run 2 (fun t H n => t 2 = .sc (.bool (!x2))) (fun J hJ => ?_) ?_
 ·simp [-splice, f4]
  exact hJ _ _ _ (by simp [-splice, f4])
 clear f4
 rintro t H n f2
 refine Stk.on ?_
 refine Stk.rt ?_
 have hq := Option.some.inj h; subst hq
 exact (hr _ _ _ (.sc (.bool (!x2))) ([]) (by simp [f2]) (.inr (.inr (.free (rfl))))).1
theorem ok_code_fitFunc (F : Nat) (a0 : api_Func) (r : Bool) (h : code_fitFunc F a0 = some r) : RunF Try.prog T.T 25 [.agg (c41 a0)] (.sc (.bool r)) := by
 rw [code_fitFunc] at h
 refine RunF.z Try.func25 rfl rfl rfl rfl rfl (fun C hr => ?_)
 refine Stk.gen (fun t H n => t 0 = .agg (c41 a0)) (by simp) ?_
 rintro t H n f0
 refine Stk.sq ?_
 refine Stk.rg ?_
 refine Stk.om (mop_box T.t41 (cs := c41 a0) (by show partOk (t 0) = true; rw [f0]; rfl) (by show cellsOf (t 0) = _; rw [f0]; rfl)) (by simp [f0]) rfl (fun t' ht' => ?_)
 refine Stk.gen (fun t H n => ∃ b1, t 1 = .own b1 0 ∧ H b1 = some (.cells (c41 a0) 41) ∧ b1 < n) ⟨n, by simp [ht'], upd_same _ _ _, Nat.lt_succ_self _⟩ ?_
 clear f0 ht' t'
 rintro t H n ⟨b1, f1, b_b1, l_b1⟩
 refine Stk.run 1 (fun t H n => t 1 = .own b1 0 ∧ H b1 = some (.cells (c41 a0) 41) ∧ b1 < n) (fun J hJ => ?_) ?_
 ·simp [-splice, f1, b_b1]
  exact hJ _ _ _ ⟨by simp [f1], b_b1, l_b1⟩
 clear f1 b_b1 l_b1
 rintro t H n ⟨f1, b_b1, l_b1⟩
 refine Stk.on ?_
 refine Stk.sq ?_
 refine Stk.sq ?_
 refine Stk.rg ?_
 refine Stk.run 5 (fun t H n => t 1 = .own b1 0 ∧ t 7 = .sc (.bool (decide (64 < (a0.Name.size : Int)))) ∧ H b1 = some (.cells (c41 a0) 41) ∧ b1 < n) (fun J hJ => ?_) ?_
 ·simp [-splice, f1, b_b1, ld_41_0_9]
  exact hJ _ _ _ ⟨by simp [f1], by simp [-splice, f1, b_b1, ld_41_0_9], b_b1, l_b1⟩
 clear f1 b_b1 l_b1
 rintro t H n ⟨f1, f7, b_b1, l_b1⟩
 obtain ⟨K1, hK1, h⟩ := jnd h
 refine Stk.jo 5 (fun t H n => ∃ v2 : Bool, K1 v2 = some r ∧ t 1 = .own b1 0 ∧ t 12 = .sc (.bool v2) ∧ H b1 = some (.cells (c41 a0) 41) ∧ b1 < n) (fun J1 hJ1 => ?_) ?_
 ·rcases Bool.eq_false_or_eq_true (decide (64 < (a0.Name.size : Int))) with hb1 | hb1
  ·rw [hb1] at f7
   replace h := cT hb1 h
   refine Stk.run 5 (fun t H n => t 1 = .own b1 0 ∧ t 12 = .sc (.bool true) ∧ H b1 = some (.cells (c41 a0) 41) ∧ b1 < n) (fun J hJ => ?_) ?_
   ·simp [-splice, f1, f7, b_b1]
    exact hJ _ _ _ ⟨by simp [f1], by simp [-splice, f1, f7, b_b1], b_b1, l_b1⟩
   clear f1 f7 b_b1 l_b1
   rintro t H n ⟨f1, f12, b_b1, l_b1⟩
   refine Stk.on ?_
   exact Stk.ln 0 (by decide) (hJ1 _ _ _ ⟨true, h, f1, f12, b_b1, l_b1⟩)
  ·rw [hb1] at f7
   replace h := cF hb1 h
   refine Stk.run 2 (fun t H n => t 1 = .own b1 0 ∧ t 7 = .sc (.bool false) ∧ t 9 = .sc (.int .i64 a0.Params) ∧ H b1 = some (.cells (c41 a0) 41) ∧ b1 < n) (fun J hJ => ?_) ?_
   ·simp [-splice, f1, f7, b_b1, ld_41_1_3]
    exact hJ _ _ _ ⟨by simp [f1], by simp [f7], by simp [-splice, f1, f7, b_b1, ld_41_1_3], b_b1, l_b1⟩
   clear f1 f7 b_b1 l_b1
   rintro t H n ⟨f1, f7, f9, b_b1, l_b1⟩
   obtain ⟨x3, hx3, h⟩ := bnd h
   refine Stk.cv (g := 39) (args := [.sc (.int .i64 a0.Params), .sc (.int .i64 0), .sc (.int .i64 6)]) (args' := [.sc (.int .i64 a0.Params), .sc (.int .i64 0), .sc (.int .i64 6)]) (v := .sc (.bool x3)) [] (ok_code_between F _ _ _ _ hx3) (by simp [f1, f7, f9]) rfl rfl (by simp [f1, f7, f9]) (.cons (.free (rfl)) (.cons (.free (rfl)) (.cons (.free (rfl)) (.nil)))) (.inl ⟨rfl, rfl⟩) (fun t' ht' => ?_)
   refine Stk.gen (fun t H n => t 1 = .own b1 0 ∧ t 7 = .sc (.bool false) ∧ t 10 = .sc (.bool x3) ∧ H b1 = some (.cells (c41 a0) 41) ∧ b1 < n) ⟨by simp [ht', f1], by simp [ht', f7], by simp [ht'], b_b1, l_b1⟩ ?_
   clear f1 f7 f9 b_b1 l_b1 ht' t'
   rintro t H n ⟨f1, f7, f10, b_b1, l_b1⟩
   refine Stk.run 2 (fun t H n => t 1 = .own b1 0 ∧ t 12 = .sc (.bool (!x3)) ∧ H b1 = some (.cells (c41 a0) 41) ∧ b1 < n) (fun J hJ => ?_) ?_
   ·simp [-splice, f1, f7, f10, b_b1]
    exact hJ _ _ _ ⟨by simp [f1], by simp [-splice, f1, f7, f10, b_b1], b_b1, l_b1⟩
   clear f1 f7 f10 b_b1 l_b1
   rintro t H n ⟨f1, f12, b_b1, l_b1⟩
   refine Stk.on ?_
   exact Stk.ln 0 (by decide) (hJ1 _ _ _ ⟨(!x3), h, f1, f12, b_b1, l_b1⟩)
 clear h f1 f7 b_b1 l_b1
 rintro t H n ⟨v2, h, f1, f12, b_b1, l_b1⟩
 subst hK1
 refine Stk.run 1 (fun t H n => t 1 = .own b1 0 ∧ t 13 = .sc (.bool v2) ∧ H b1 = some (.cells (c41 a0) 41) ∧ b1 < n) (fun J hJ => ?_) ?_
 ·simp [-splice, f1, f12, b_b1]
  exact hJ _ _ _ ⟨by simp [f1], by simp [-splice, f1, f12, b_b1], b_b1, l_b1⟩
 clear f1 f12 b_b1 l_b1
 rintro t H n ⟨f1, f13, b_b1, l_b1⟩
 obtain ⟨K2, hK2, h⟩ := jnd h
 refine Stk.jo 5 (fun t H n => ∃ v4 : Bool, K2 v4 = some r ∧ t 1 = .own b1 0 ∧ t 18 = .sc (.bool v4) ∧ H b1 = some (.cells (c41 a0) 41) ∧ b1 < n) (fun J2 hJ2 => ?_) ?_
 ·rcases Bool.eq_false_or_eq_true v2 with hb2 | hb2
  ·rw [hb2] at f13
   replace h := cT hb2 h
   refine Stk.run 5 (fun t H n => t 1 = .own b1 0 ∧ t 18 = .sc (.bool true) ∧ H b1 = some (.cells (c41 a0) 41) ∧ b1 < n) (fun J hJ => ?_) ?_
   ·simp [-splice, f1, f13, b_b1]
    exact hJ _ _ _ ⟨by simp [f1], by simp [-splice, f1, f13, b_b1], b_b1, l_b1⟩
   clear f1 f13 b_b1 l_b1
   rintro t H n ⟨f1, f18, b_b1, l_b1⟩
   refine Stk.on ?_
   exact Stk.ln 0 (by decide) (hJ2 _ _ _ ⟨true, h, f1, f18, b_b1, l_b1⟩)
  ·rw [hb2] at f13
   replace h := cF hb2 h
   refine Stk.run 2 (fun t H n => t 1 = .own b1 0 ∧ t 13 = .sc (.bool false) ∧ t 15 = .sc (.int .i64 a0.Slots) ∧ H b1 = some (.cells (c41 a0) 41) ∧ b1 < n) (fun J hJ => ?_) ?_
   ·simp [-splice, f1, f13, b_b1, ld_41_2_3]
    exact hJ _ _ _ ⟨by simp [f1], by simp [f13], by simp [-splice, f1, f13, b_b1, ld_41_2_3], b_b1, l_b1⟩
   clear f1 f13 b_b1 l_b1
   rintro t H n ⟨f1, f13, f15, b_b1, l_b1⟩
   obtain ⟨x5, hx5, h⟩ := bnd h
   refine Stk.cv (g := 39) (args := [.sc (.int .i64 a0.Slots), .sc (.int .i64 0), .sc (.int .i64 8192)]) (args' := [.sc (.int .i64 a0.Slots), .sc (.int .i64 0), .sc (.int .i64 8192)]) (v := .sc (.bool x5)) [] (ok_code_between F _ _ _ _ hx5) (by simp [f1, f13, f15]) rfl rfl (by simp [f1, f13, f15]) (.cons (.free (rfl)) (.cons (.free (rfl)) (.cons (.free (rfl)) (.nil)))) (.inl ⟨rfl, rfl⟩) (fun t' ht' => ?_)
   refine Stk.gen (fun t H n => t 1 = .own b1 0 ∧ t 13 = .sc (.bool false) ∧ t 16 = .sc (.bool x5) ∧ H b1 = some (.cells (c41 a0) 41) ∧ b1 < n) ⟨by simp [ht', f1], by simp [ht', f13], by simp [ht'], b_b1, l_b1⟩ ?_
   clear f1 f13 f15 b_b1 l_b1 ht' t'
   rintro t H n ⟨f1, f13, f16, b_b1, l_b1⟩
   refine Stk.run 2 (fun t H n => t 1 = .own b1 0 ∧ t 18 = .sc (.bool (!x5)) ∧ H b1 = some (.cells (c41 a0) 41) ∧ b1 < n) (fun J hJ => ?_) ?_
   ·simp [-splice, f1, f13, f16, b_b1]
    exact hJ _ _ _ ⟨by simp [f1], by simp [-splice, f1, f13, f16, b_b1], b_b1, l_b1⟩
   clear f1 f13 f16 b_b1 l_b1
   rintro t H n ⟨f1, f18, b_b1, l_b1⟩
   refine Stk.on ?_
   exact Stk.ln 0 (by decide) (hJ2 _ _ _ ⟨(!x5), h, f1, f18, b_b1, l_b1⟩)
 clear h f1 f13 b_b1 l_b1
 rintro t H n ⟨v4, h, f1, f18, b_b1, l_b1⟩
 subst hK2
 refine Stk.run 1 (fun t H n => t 1 = .own b1 0 ∧ t 19 = .sc (.bool v4) ∧ H b1 = some (.cells (c41 a0) 41) ∧ b1 < n) (fun J hJ => ?_) ?_
 ·simp [-splice, f1, f18, b_b1]
  exact hJ _ _ _ ⟨by simp [f1], by simp [-splice, f1, f18, b_b1], b_b1, l_b1⟩
 clear f1 f18 b_b1 l_b1
 rintro t H n ⟨f1, f19, b_b1, l_b1⟩
 obtain ⟨K3, hK3, h⟩ := jnd h
 refine Stk.jo 6 (fun t H n => ∃ v6 : Bool, K3 v6 = some r ∧ t 1 = .own b1 0 ∧ t 25 = .sc (.bool v6) ∧ H b1 = some (.cells (c41 a0) 41) ∧ b1 < n) (fun J3 hJ3 => ?_) ?_
 ·rcases Bool.eq_false_or_eq_true v4 with hb3 | hb3
  ·rw [hb3] at f19
   replace h := cT hb3 h
   refine Stk.run 6 (fun t H n => t 1 = .own b1 0 ∧ t 25 = .sc (.bool true) ∧ H b1 = some (.cells (c41 a0) 41) ∧ b1 < n) (fun J hJ => ?_) ?_
   ·simp [-splice, f1, f19, b_b1]
    exact hJ _ _ _ ⟨by simp [f1], by simp [-splice, f1, f19, b_b1], b_b1, l_b1⟩
   clear f1 f19 b_b1 l_b1
   rintro t H n ⟨f1, f25, b_b1, l_b1⟩
   refine Stk.on ?_
   exact Stk.ln 0 (by decide) (hJ3 _ _ _ ⟨true, h, f1, f25, b_b1, l_b1⟩)
  ·rw [hb3] at f19
   replace h := cF hb3 h
   refine Stk.run 3 (fun t H n => t 1 = .own b1 0 ∧ t 19 = .sc (.bool false) ∧ t 22 = .sc (.int .i64 (a0.Code.length : Int)) ∧ H b1 = some (.cells (c41 a0) 41) ∧ b1 < n) (fun J hJ => ?_) ?_
   ·simp [-splice, f1, f19, b_b1, ld_41_3_39]
    exact hJ _ _ _ ⟨by simp [f1], by simp [f19], by simp [-splice, f1, f19, b_b1, ld_41_3_39], b_b1, l_b1⟩
   clear f1 f19 b_b1 l_b1
   rintro t H n ⟨f1, f19, f22, b_b1, l_b1⟩
   obtain ⟨x7, hx7, h⟩ := bnd h
   refine Stk.cv (g := 39) (args := [.sc (.int .i64 (a0.Code.length : Int)), .sc (.int .i64 1), .sc (.int .i64 1048576)]) (args' := [.sc (.int .i64 (a0.Code.length : Int)), .sc (.int .i64 1), .sc (.int .i64 1048576)]) (v := .sc (.bool x7)) [] (ok_code_between F _ _ _ _ hx7) (by simp [f1, f19, f22]) rfl rfl (by simp [f1, f19, f22]) (.cons (.free (rfl)) (.cons (.free (rfl)) (.cons (.free (rfl)) (.nil)))) (.inl ⟨rfl, rfl⟩) (fun t' ht' => ?_)
   refine Stk.gen (fun t H n => t 1 = .own b1 0 ∧ t 19 = .sc (.bool false) ∧ t 23 = .sc (.bool x7) ∧ H b1 = some (.cells (c41 a0) 41) ∧ b1 < n) ⟨by simp [ht', f1], by simp [ht', f19], by simp [ht'], b_b1, l_b1⟩ ?_
   clear f1 f19 f22 b_b1 l_b1 ht' t'
   rintro t H n ⟨f1, f19, f23, b_b1, l_b1⟩
   refine Stk.run 2 (fun t H n => t 1 = .own b1 0 ∧ t 25 = .sc (.bool (!x7)) ∧ H b1 = some (.cells (c41 a0) 41) ∧ b1 < n) (fun J hJ => ?_) ?_
   ·simp [-splice, f1, f19, f23, b_b1]
    exact hJ _ _ _ ⟨by simp [f1], by simp [-splice, f1, f19, f23, b_b1], b_b1, l_b1⟩
   clear f1 f19 f23 b_b1 l_b1
   rintro t H n ⟨f1, f25, b_b1, l_b1⟩
   refine Stk.on ?_
   exact Stk.ln 0 (by decide) (hJ3 _ _ _ ⟨(!x7), h, f1, f25, b_b1, l_b1⟩)
 clear h f1 f19 b_b1 l_b1
 rintro t H n ⟨v6, h, f1, f25, b_b1, l_b1⟩
 subst hK3
 refine Stk.on ?_
 refine Stk.cond v6 (by exact f25) (fun hb8 => ?_) (fun hb8 => ?_)
 ·have h := cT hb8 h
  refine Stk.sq ?_
  refine Stk.rg ?_
  refine Stk.run 1 (fun t H n => t 2 = .sc (.bool false)) (fun J hJ => ?_) ?_
  ·simp [-splice, f1, f25, b_b1]
   exact hJ _ _ _ (by simp [-splice, f1, f25, b_b1])
  clear f1 f25 b_b1 l_b1
  rintro t H n f2
  refine Stk.on ?_
  refine Stk.rt ?_
  have hq := Option.some.inj h; subst hq
  exact (hr _ _ _ (.sc (.bool false)) ([]) (by simp [f2]) (.inr (.inr (.free (rfl))))).1
 ·have h := cF hb8 h
  refine Stk.sk ?_
  refine Stk.sq ?_
  refine Stk.rg ?_
  refine Stk.run 2 (fun t H n => t 27 = .ssl (encs c44 a0.Code) a0.Code.length false) (fun J hJ => ?_) ?_
  ·simp [-splice, f1, f25, b_b1, ld_41_3_39]
   exact hJ _ _ _ (by simp [-splice, f1, f25, b_b1, ld_41_3_39])
  clear f1 f25 b_b1 l_b1
  rintro t H n f27
  obtain ⟨x9, hx9, h⟩ := bnd h
  refine Stk.cv (g := 40) (args := [.ssl (encs c44 a0.Code) a0.Code.length false, .fn (.func 41) [] []]) (args' := [.ssl (encs c44 a0.Code) a0.Code.length false, .fn (.func 41) [] []]) (v := .sc (.bool x9)) [] (ok_slices_ContainsFunc_api_Inst_api_Inst F _ _ 41 [] [] ⟨by simp [freeL, free], by simp [freeL, free]⟩ (fun y0 r h => ok_code_fitFunc_1 F y0 r h) _ hx9) (by simp [f27]) rfl rfl (by simp [f27]) (.cons (.free (freeL_encs fr44 _)) (.cons (.fn .nil (.nil)) (.nil))) (.inl ⟨rfl, rfl⟩) (fun t' ht' => ?_)
  refine Stk.gen (fun t H n => t 28 = .sc (.bool x9)) (by simp [ht']) ?_
  clear f27 ht' t'
  rintro t H n f28
  refine Stk.run 2 (fun t H n => t 2 = .sc (.bool (!x9))) (fun J hJ => ?_) ?_
  ·simp [-splice, f28]
   exact hJ _ _ _ (by simp [-splice, f28])
  clear f28
  rintro t H n f2
  refine Stk.on ?_
  refine Stk.rt ?_
  have hq := Option.some.inj h; subst hq
  exact (hr _ _ _ (.sc (.bool (!x9))) ([]) (by simp [f2]) (.inr (.inr (.free (rfl))))).1
theorem ok_code_Fit_1 (F : Nat) (a0 : api_Func) (r : Bool) (h : code_Fit_1 F a0 = some r) : RunF Try.prog T.T 24 [.agg (c41 a0)] (.sc (.bool r)) := by
 rw [code_Fit_1] at h
 refine RunF.z Try.func24 rfl rfl rfl rfl rfl (fun C hr => ?_)
 refine Stk.gen (fun t H n => t 0 = .agg (c41 a0)) (by simp) ?_
 rintro t H n f0
 refine Stk.sq ?_
 refine Stk.rg ?_
 refine Stk.om (mop_box T.t41 (cs := c41 a0) (by show partOk (t 0) = true; rw [f0]; rfl) (by show cellsOf (t 0) = _; rw [f0]; rfl)) (by simp [f0]) rfl (fun t' ht' => ?_)
 refine Stk.gen (fun t H n => ∃ b1, t 1 = .own b1 0 ∧ H b1 = some (.cells (c41 a0) 41) ∧ b1 < n) ⟨n, by simp [ht'], upd_same _ _ _, Nat.lt_succ_self _⟩ ?_
 clear f0 ht' t'
 rintro t H n ⟨b1, f1, b_b1, l_b1⟩
 refine Stk.run 1 (fun t H n => t 1 = .own b1 0 ∧ H b1 = some (.cells (c41 a0) 41) ∧ b1 < n) (fun J hJ => ?_) ?_
 ·simp [-splice, f1, b_b1]
  exact hJ _ _ _ ⟨by simp [f1], b_b1, l_b1⟩
 clear f1 b_b1 l_b1
 rintro t H n ⟨f1, b_b1, l_b1⟩
 refine Stk.on ?_
 refine Stk.sq ?_
 refine Stk.rg ?_
 refine Stk.run 1 (fun t H n => t 3 = .agg (c41 a0)) (fun J hJ => ?_) ?_
 ·simp [-splice, f1, b_b1, ld_41_0_41]
  exact hJ _ _ _ (by simp [-splice, f1, b_b1, ld_41_0_41])
 clear f1 b_b1 l_b1
 rintro t H n f3
 obtain ⟨x2, hx2, h⟩ := bnd h
 refine Stk.cv (g := 25) (args := [.agg (c41 a0)]) (args' := [.agg (c41 a0)]) (v := .sc (.bool x2)) [] (ok_code_fitFunc F _ _ hx2) (by simp [f3]) rfl rfl (by simp [f3]) (.cons (.free (fr41 _)) (.nil)) (.inl ⟨rfl, rfl⟩) (fun t' ht' => ?_)
 refine Stk.gen (fun t H n => t 4 = .sc (.bool x2)) (by simp [ht']) ?_
 clear f3 ht' t'
 rintro t H n f4
 refine Stk.run 2 (fun t H n => t 2 = .sc (.bool (!x2))) (fun J hJ => ?_) ?_
 ·simp [-splice, f4]
  exact hJ _ _ _ (by simp [-splice, f4])
 clear f4
 rintro t H n f2
 refine Stk.on ?_
 refine Stk.rt ?_
 have hq := Option.some.inj h; subst hq
 exact (hr _ _ _ (.sc (.bool (!x2))) ([]) (by simp [f2]) (.inr (.inr (.free (rfl))))).1
theorem ok_slices_IndexFunc_byte_byte (F : Nat) (a0 : (List (List Int))) (φ1 : (List Int) → Option Bool) (g1 : FuncId) (first1 caps1 : List AV) (fr1 : freeL first1 = true ∧ freeL caps1 = true) (hφ1 : ∀ y0 r, φ1 y0 = some r → RunF Try.prog T.T g1 (first1 ++ [.ssl (encs c5 y0) y0.length false] ++ caps1) (.sc (.bool r))) (r : Int) (h : slices_IndexFunc_byte_byte F a0 φ1 = some r) : RunF Try.prog T.T 43 [.ssl (encs c51 a0) a0.length false, .fn (.func g1) first1 caps1] (.sc (.int .i64 r)) := by
 rw [slices_IndexFunc_byte_byte] at h
 refine RunF.z Try.func43 rfl rfl rfl rfl rfl (fun C hr => ?_)
 refine Stk.gen (fun t H n => t 0 = .ssl (encs c51 a0) a0.length false ∧ t 1 = .fn (.func g1) first1 caps1) ⟨by simp, by simp⟩ ?_
 rintro t H n ⟨f0, f1⟩
 refine Stk.sq ?_
 refine Stk.rg ?_
 refine Stk.run 1 (fun t H n => t 0 = .ssl (encs c51 a0) a0.length false ∧ t 1 = .fn (.func g1) first1 caps1) (fun J hJ => ?_) ?_
 ·simp [-splice, f0, f1]
  exact hJ _ _ _ ⟨by simp [f0], by simp [f1]⟩
 clear f0 f1
 rintro t H n ⟨f0, f1⟩
 refine Stk.on ?_
 refine Stk.sq ?_
 refine Stk.sq ?_
 refine Stk.rg ?_
 refine Stk.run 3 (fun t H n => t 0 = .ssl (encs c51 a0) a0.length false ∧ t 1 = .fn (.func g1) first1 caps1 ∧ t 7 = .sc (.int .i64 (a0.length : Int)) ∧ t 8 = .sc (.int .i64 0)) (fun J hJ => ?_) ?_
 ·simp [-splice, f0, f1]
  exact hJ _ _ _ ⟨by simp [f0], by simp [f1], by simp [-splice, f0, f1], by simp [-splice, f0, f1]⟩
 clear f0 f1
 rintro t H n ⟨f0, f1, f7, f8⟩
 refine Stk.on ?_
 refine Stk.bk ?_
 refine Stk.lo (fun μ t H n => ∃ v1 : Int, slices_IndexFunc_byte_byte_L0 F a0 φ1 μ v1 = some r ∧ t 0 = .ssl (encs c51 a0) a0.length false ∧ t 1 = .fn (.func g1) first1 caps1 ∧ t 7 = .sc (.int .i64 (a0.length : Int)) ∧ t 8 = .sc (.int .i64 v1)) F ⟨0, h, f0, f1, f7, f8⟩ ?_
 clear h f0 f1 f7 f8
 rintro J1 hJ1 μ t H n ⟨v1, h, f0, f1, f7, f8⟩
 cases μ with
 | zero => exact absurd h (by simp [slices_IndexFunc_byte_byte_L0])
 | succ μ =>
 rw [slices_IndexFunc_byte_byte_L0] at h
 refine Stk.sq ?_
 refine Stk.rg ?_
 refine Stk.run 1 (fun t H n => t 0 = .ssl (encs c51 a0) a0.length false ∧ t 1 = .fn (.func g1) first1 caps1 ∧ t 7 = .sc (.int .i64 (a0.length : Int)) ∧ t 8 = .sc (.int .i64 v1) ∧ t 9 = .sc (.bool (decide (v1 < (a0.length : Int))))) (fun J hJ => ?_) ?_
 ·simp [-splice, f0, f1, f7, f8]
  exact hJ _ _ _ ⟨by simp [f0], by simp [f1], by simp [f7], by simp [f8], by simp [-splice, f0, f1, f7, f8]⟩
 clear f0 f1 f7 f8
 rintro t H n ⟨f0, f1, f7, f8, f9⟩
 refine Stk.on ?_
 refine Stk.sq ?_
 refine Stk.cond (decide (v1 < (a0.length : Int))) (by exact f9) (fun hb3 => ?_) (fun hb3 => ?_)
 ·have h := cT hb3 h
  refine Stk.sk ?_
  refine Stk.sq ?_
  refine Stk.bk ?_
  refine Stk.sq ?_
  refine Stk.rg ?_
  refine Stk.run 2 (fun t H n => t 0 = .ssl (encs c51 a0) a0.length false ∧ t 1 = .fn (.func g1) first1 caps1 ∧ t 5 = .sc (.int .i64 v1) ∧ t 7 = .sc (.int .i64 (a0.length : Int)) ∧ t 8 = .sc (.int .i64 v1)) (fun J hJ => ?_) ?_
  ·simp [-splice, f0, f1, f7, f8, f9]
   exact hJ _ _ _ ⟨by simp [f0], by simp [f1], by simp [-splice, f0, f1, f7, f8, f9], by simp [f7], by simp [f8]⟩
  clear f0 f1 f7 f8 f9
  rintro t H n ⟨f0, f1, f5, f7, f8⟩
  refine Stk.on ?_
  refine Stk.sq ?_
  refine Stk.rg ?_
  obtain ⟨x4, hx4, h⟩ := bnd h
  obtain ⟨i0x4, i1x4, i2x4, _⟩ := idx_ok hx4
  have ex4_0_51 : partOf T.T 51 (encs c51 a0) (v1.toNat) = some (.ssl (encs c5 x4) x4.length false) := by
    have e0 := part_elem0 (e := c51) (z := 1) (T := T.T) (ty := 51) T.t51 (by decide) (by decide) hx4 0 (by decide)
    (try simp only [Nat.mul_one, Nat.add_zero] at e0)
    exact e0.trans rfl
  refine Stk.run 5 (fun t H n => t 0 = .ssl (encs c51 a0) a0.length false ∧ t 1 = .fn (.func g1) first1 caps1 ∧ t 5 = .sc (.int .i64 v1) ∧ t 7 = .sc (.int .i64 (a0.length : Int)) ∧ t 8 = .sc (.int .i64 v1) ∧ t 11 = .fn (.func g1) first1 caps1 ∧ t 15 = .ssl (encs c5 x4) x4.length false) (fun J hJ => ?_) ?_
  ·simp [-splice, f0, f1, f5, f7, f8, i0x4, i1x4, pd51, ex4_0_51]
   exact hJ _ _ _ ⟨by simp [f0], by simp [f1], by simp [f5], by simp [f7], by simp [f8], by simp [-splice, f0, f1, f5, f7, f8, i0x4, i1x4, pd51, ex4_0_51], by simp [-splice, f0, f1, f5, f7, f8, i0x4, i1x4, pd51, ex4_0_51]⟩
  clear f0 f1 f5 f7 f8
  rintro t H n ⟨f0, f1, f5, f7, f8, f11, f15⟩
  obtain ⟨x5, hx5, h⟩ := bnd h
  refine Stk.cv (g := g1) (args := first1 ++ [.ssl (encs c5 x4) x4.length false] ++ caps1) (args' := first1 ++ [.ssl (encs c5 x4) x4.length false] ++ caps1) (v := .sc (.bool x5)) [] (hφ1 _ _ hx5) (by simp [f0, f1, f5, f7, f8, f11, f15]) rfl f11 (by simp [f0, f1, f5, f7, f8, f11, f15]) (viewL_mid (x := [.ssl (encs c5 x4) x4.length false]) (y := [.ssl (encs c5 x4) x4.length false]) fr1.1 fr1.2 (.cons (.free (freeL_encs fr5 _)) (.nil))) (.inl ⟨rfl, rfl⟩) (fun t' ht' => ?_)
  refine Stk.gen (fun t H n => t 0 = .ssl (encs c51 a0) a0.length false ∧ t 1 = .fn (.func g1) first1 caps1 ∧ t 5 = .sc (.int .i64 v1) ∧ t 7 = .sc (.int .i64 (a0.length : Int)) ∧ t 8 = .sc (.int .i64 v1) ∧ t 16 = .sc (.bool x5)) ⟨by simp [ht', f0], by simp [ht', f1], by simp [ht', f5], by simp [ht', f7], by simp [ht', f8], by simp [ht']⟩ ?_
  clear f0 f1 f5 f7 f8 f11 f15 ht' t'
  rintro t H n ⟨f0, f1, f5, f7, f8, f16⟩
  refine Stk.on ?_
  refine Stk.cond x5 (by exact f16) (fun hb6 => ?_) (fun hb6 => ?_)
  ·have h := cT hb6 h
   refine Stk.sq ?_
   refine Stk.rg ?_
   refine Stk.run 2 (fun t H n => t 4 = .sc (.int .i64 v1)) (fun J hJ => ?_) ?_
   ·simp [-splice, f0, f1, f5, f7, f8, f16]
    exact hJ _ _ _ (by simp [-splice, f0, f1, f5, f7, f8, f16])
   clear f0 f1 f5 f7 f8 f16
   rintro t H n f4
   refine Stk.on ?_
   refine Stk.rt ?_
   have hq := Option.some.inj h; subst hq
   exact (hr _ _ _ (.sc (.int .i64 v1)) ([]) (by simp [f4]) (.inr (.inr (.free (rfl))))).1
  ·have h := cF hb6 h
   refine Stk.sk ?_
   refine Stk.bn ?_
   refine Stk.rg ?_
   refine Stk.run 2 (fun t H n => t 0 = .ssl (encs c51 a0) a0.length false ∧ t 1 = .fn (.func g1) first1 caps1 ∧ t 7 = .sc (.int .i64 (a0.length : Int)) ∧ t 8 = .sc (.int .i64 (IntKind.i64.wrap (v1 + 1)))) (fun J hJ => ?_) ?_
   ·simp [-splice, f0, f1, f5, f7, f8, f16]
    exact hJ _ _ _ ⟨by simp [f0], by simp [f1], by simp [f7], by simp [-splice, f0, f1, f5, f7, f8, f16]⟩
   clear f0 f1 f5 f7 f8 f16
   rintro t H n ⟨f0, f1, f7, f8⟩
   refine Stk.on ?_
   exact Stk.ln μ (Nat.lt_succ_self _) (hJ1 _ _ _ _ ⟨(IntKind.i64.wrap (v1 + 1)), h, f0, f1, f7, f8⟩)
 ·have h := cF hb3 h
  refine Stk.ex rfl ?_
  refine Stk.sq ?_
  refine Stk.rg ?_
  refine Stk.run 1 (fun t H n => t 4 = .sc (.int .i64 (-1))) (fun J hJ => ?_) ?_
  ·simp [-splice, f0, f1, f7, f8, f9]
   exact hJ _ _ _ (by simp [-splice, f0, f1, f7, f8, f9])
  clear f0 f1 f7 f8 f9
  rintro t H n f4
  refine Stk.on ?_
  refine Stk.rt ?_
  have hq := Option.some.inj h; subst hq
  exact (hr _ _ _ (.sc (.int .i64 (-1))) ([]) (by simp [f4]) (.inr (.inr (.free (rfl))))).1
theorem ok_slices_ContainsFunc_byte_byte (F : Nat) (a0 : (List (List Int))) (φ1 : (List Int) → Option Bool) (g1 : FuncId) (first1 caps1 : List AV) (fr1 : freeL first1 = true ∧ freeL caps1 = true) (hφ1 : ∀ y0 r, φ1 y0 = some r → RunF Try.prog T.T g1 (first1 ++ [.ssl (encs c5 y0) y0.length false] ++ caps1) (.sc (.bool r))) (r : Bool) (h : slices_ContainsFunc_byte_byte F a0 φ1 = some r) : RunF Try.prog T.T 26 [.ssl (encs c51 a0) a0.length false, .fn (.func g1) first1 caps1] (.sc (.bool r)) := by
 rw [slices_ContainsFunc_byte_byte] at h
 refine RunF.z Try.func26 rfl rfl rfl rfl rfl (fun C hr => ?_)
 refine Stk.gen (fun t H n => t 0 = .ssl (encs c51 a0) a0.length false ∧ t 1 = .fn (.func g1) first1 caps1) ⟨by simp, by simp⟩ ?_
 rintro t H n ⟨f0, f1⟩
 refine Stk.sq ?_
 refine Stk.rg ?_
 refine Stk.run 1 (fun t H n => t 0 = .ssl (encs c51 a0) a0.length false ∧ t 1 = .fn (.func g1) first1 caps1) (fun J hJ => ?_) ?_
 ·simp [-splice, f0, f1]
  exact hJ _ _ _ ⟨by simp [f0], by simp [f1]⟩
 clear f0 f1
 rintro t H n ⟨f0, f1⟩
 refine Stk.on ?_
 refine Stk.sq ?_
 refine Stk.rg ?_
 refine Stk.run 2 (fun t H n => t 5 = .ssl (encs c51 a0) a0.length false ∧ t 6 = .fn (.func g1) first1 caps1) (fun J hJ => ?_) ?_
 ·simp [-splice, f0, f1]
  exact hJ _ _ _ ⟨by simp [-splice, f0, f1], by simp [-splice, f0, f1]⟩
 clear f0 f1
 rintro t H n ⟨f5, f6⟩
 obtain ⟨x1, hx1, h⟩ := bnd h
 refine Stk.cv (g := 43) (args := [.ssl (encs c51 a0) a0.length false, .fn (.func g1) first1 caps1]) (args' := [.ssl (encs c51 a0) a0.length false, .fn (.func g1) first1 caps1]) (v := .sc (.int .i64 x1)) [] (ok_slices_IndexFunc_byte_byte F _ _ _ _ _ fr1 hφ1 _ hx1) (by simp [f5, f6]) rfl rfl (by simp [f5, f6]) (.cons (.free (freeL_encs fr51 _)) (.cons (.free (by simp [free, fr1])) (.nil))) (.inl ⟨rfl, rfl⟩) (fun t' ht' => ?_)
 refine Stk.gen (fun t H n => t 7 = .sc (.int .i64 x1)) (by simp [ht']) ?_
 clear f5 f6 ht' t'
 rintro t H n f7
 refine Stk.run 2 (fun t H n => t 4 = .sc (.bool (decide (0 ≤ x1)))) (fun J hJ => ?_) ?_
 ·simp [-splice, f7]
  exact hJ _ _ _ (by simp [-splice, f7])
 clear f7
 rintro t H n f4
 refine Stk.on ?_
 refine Stk.rt ?_
 have hq := Option.some.inj h; subst hq
 exact (hr _ _ _ (.sc (.bool (decide (0 ≤ x1)))) ([]) (by simp [f4]) (.inr (.inr (.free (rfl))))).1
theorem ok_code_Fit_2 (F : Nat) (a0 : (List Int)) (r : Bool) (h : code_Fit_2 F a0 = some r) : RunF Try.prog T.T 27 [.ssl (encs c5 a0) a0.length false] (.sc (.bool r)) := by
 rw [code_Fit_2] at h
 refine RunF.z Try.func27 rfl rfl rfl rfl rfl (fun C hr => ?_)
 refine Stk.gen (fun t H n => t 0 = .ssl (encs c5 a0) a0.length false) (by simp) ?_
 rintro t H n f0
 refine Stk.sq ?_
 refine Stk.rg ?_
 refine Stk.run 1 (fun t H n => t 0 = .ssl (encs c5 a0) a0.length false) (fun J hJ => ?_) ?_
 ·simp [-splice, f0]
  exact hJ _ _ _ (by simp [f0])
 clear f0
 rintro t H n f0
 refine Stk.on ?_
 refine Stk.sq ?_
 refine Stk.rg ?_
 refine Stk.run 4 (fun t H n => t 2 = .sc (.bool (decide (64 < (a0.length : Int))))) (fun J hJ => ?_) ?_
 ·simp [-splice, f0]
  exact hJ _ _ _ (by simp [-splice, f0])
 clear f0
 rintro t H n f2
 refine Stk.on ?_
 refine Stk.rt ?_
 have hq := Option.some.inj h; subst hq
 exact (hr _ _ _ (.sc (.bool (decide (64 < (a0.length : Int))))) ([]) (by simp [f2]) (.inr (.inr (.free (rfl))))).1
theorem ok_slices_IndexFunc_int_int (F : Nat) (a0 : (List (List Int))) (φ1 : (List Int) → Option Bool) (g1 : FuncId) (first1 caps1 : List AV) (fr1 : freeL first1 = true ∧ freeL caps1 = true) (hφ1 : ∀ y0 r, φ1 y0 = some r → RunF Try.prog T.T g1 (first1 ++ [.ssl (encs c3 y0) y0.length false] ++ caps1) (.sc (.bool r))) (r : Int) (h : slices_IndexFunc_int_int F a0 φ1 = some r) : RunF Try.prog T.T 44 [.ssl (encs c47 a0) a0.length false, .fn (.func g1) first1 caps1] (.sc (.int .i64 r)) := by
 rw [slices_IndexFunc_int_int] at h
 refine RunF.z Try.func44 rfl rfl rfl rfl rfl (fun C hr => ?_)
 refine Stk.gen (fun t H n => t 0 = .ssl (encs c47 a0) a0.length false ∧ t 1 = .fn (.func g1) first1 caps1) ⟨by simp, by simp⟩ ?_
 rintro t H n ⟨f0, f1⟩
 refine Stk.sq ?_
 refine Stk.rg ?_
 refine Stk.run 1 (fun t H n => t 0 = .ssl (encs c47 a0) a0.length false ∧ t 1 = .fn (.func g1) first1 caps1) (fun J hJ => ?_) ?_
 ·simp [-splice, f0, f1]
  exact hJ _ _ _ ⟨by simp [f0], by simp [f1]⟩
 clear f0 f1
 rintro t H n ⟨f0, f1⟩
 refine Stk.on ?_
 refine Stk.sq ?_
 refine Stk.sq ?_
 refine Stk.rg ?_
 refine Stk.run 3 (fun t H n => t 0 = .ssl (encs c47 a0) a0.length false ∧ t 1 = .fn (.func g1) first1 caps1 ∧ t 7 = .sc (.int .i64 (a0.length : Int)) ∧ t 8 = .sc (.int .i64 0)) (fun J hJ => ?_) ?_
 ·simp [-splice, f0, f1]
  exact hJ _ _ _ ⟨by simp [f0], by simp [f1], by simp [-splice, f0, f1], by simp [-splice, f0, f1]⟩
 clear f0 f1
 rintro t H n ⟨f0, f1, f7, f8⟩
 refine Stk.on ?_
 refine Stk.bk ?_
 refine Stk.lo (fun μ t H n => ∃ v1 : Int, slices_IndexFunc_int_int_L0 F a0 φ1 μ v1 = some r ∧ t 0 = .ssl (encs c47 a0) a0.length false ∧ t 1 = .fn (.func g1) first1 caps1 ∧ t 7 = .sc (.int .i64 (a0.length : Int)) ∧ t 8 = .sc (.int .i64 v1)) F ⟨0, h, f0, f1, f7, f8⟩ ?_
 clear h f0 f1 f7 f8
 rintro J1 hJ1 μ t H n ⟨v1, h, f0, f1, f7, f8⟩
 cases μ with
 | zero => exact absurd h (by simp [slices_IndexFunc_int_int_L0])
 | succ μ =>
 rw [slices_IndexFunc_int_int_L0] at h
 refine Stk.sq ?_
 refine Stk.rg ?_
 refine Stk.run 1 (fun t H n => t 0 = .ssl (encs c47 a0) a0.length false ∧ t 1 = .fn (.func g1) first1 caps1 ∧ t 7 = .sc (.int .i64 (a0.length : Int)) ∧ t 8 = .sc (.int .i64 v1) ∧ t 9 = .sc (.bool (decide (v1 < (a0.length : Int))))) (fun J hJ => ?_) ?_
 ·simp [-splice, f0, f1, f7, f8]
  exact hJ _ _ _ ⟨by simp [f0], by simp [f1], by simp [f7], by simp [f8], by simp [-splice, f0, f1, f7, f8]⟩
 clear f0 f1 f7 f8
 rintro t H n ⟨f0, f1, f7, f8, f9⟩
 refine Stk.on ?_
 refine Stk.sq ?_
 refine Stk.cond (decide (v1 < (a0.length : Int))) (by exact f9) (fun hb3 => ?_) (fun hb3 => ?_)
 ·have h := cT hb3 h
  refine Stk.sk ?_
  refine Stk.sq ?_
  refine Stk.bk ?_
  refine Stk.sq ?_
  refine Stk.rg ?_
  refine Stk.run 2 (fun t H n => t 0 = .ssl (encs c47 a0) a0.length false ∧ t 1 = .fn (.func g1) first1 caps1 ∧ t 5 = .sc (.int .i64 v1) ∧ t 7 = .sc (.int .i64 (a0.length : Int)) ∧ t 8 = .sc (.int .i64 v1)) (fun J hJ => ?_) ?_
  ·simp [-splice, f0, f1, f7, f8, f9]
   exact hJ _ _ _ ⟨by simp [f0], by simp [f1], by simp [-splice, f0, f1, f7, f8, f9], by simp [f7], by simp [f8]⟩
  clear f0 f1 f7 f8 f9
  rintro t H n ⟨f0, f1, f5, f7, f8⟩
  refine Stk.on ?_
  refine Stk.sq ?_
  refine Stk.rg ?_
  obtain ⟨x4, hx4, h⟩ := bnd h
  obtain ⟨i0x4, i1x4, i2x4, _⟩ := idx_ok hx4
  have ex4_0_47 : partOf T.T 47 (encs c47 a0) (v1.toNat) = some (.ssl (encs c3 x4) x4.length false) := by
    have e0 := part_elem0 (e := c47) (z := 1) (T := T.T) (ty := 47) T.t47 (by decide) (by decide) hx4 0 (by decide)
    (try simp only [Nat.mul_one, Nat.add_zero] at e0)
    exact e0.trans rfl
  refine Stk.run 5 (fun t H n => t 0 = .ssl (encs c47 a0) a0.length false ∧ t 1 = .fn (.func g1) first1 caps1 ∧ t 5 = .sc (.int .i64 v1) ∧ t 7 = .sc (.int .i64 (a0.length : Int)) ∧ t 8 = .sc (.int .i64 v1) ∧ t 11 = .fn (.func g1) first1 caps1 ∧ t 15 = .ssl (encs c3 x4) x4.length false) (fun J hJ => ?_) ?_
  ·simp [-splice, f0, f1, f5, f7, f8, i0x4, i1x4, pd47, ex4_0_47]
   exact hJ _ _ _ ⟨by simp [f0], by simp [f1], by simp [f5], by simp [f7], by simp [f8], by simp [-splice, f0, f1, f5, f7, f8, i0x4, i1x4, pd47, ex4_0_47], by simp [-splice, f0, f1, f5, f7, f8, i0x4, i1x4, pd47, ex4_0_47]⟩
  clear f0 f1 f5 f7 f8
  rintro t H n ⟨f0, f1, f5, f7, f8, f11, f15⟩
  obtain ⟨x5, hx5, h⟩ := bnd h
  refine Stk.cv (g := g1) (args := first1 ++ [.ssl (encs c3 x4) x4.length false] ++ caps1) (args' := first1 ++ [.ssl (encs c3 x4) x4.length false] ++ caps1) (v := .sc (.bool x5)) [] (hφ1 _ _ hx5) (by simp [f0, f1, f5, f7, f8, f11, f15]) rfl f11 (by simp [f0, f1, f5, f7, f8, f11, f15]) (viewL_mid (x := [.ssl (encs c3 x4) x4.length false]) (y := [.ssl (encs c3 x4) x4.length false]) fr1.1 fr1.2 (.cons (.free (freeL_encs fr3 _)) (.nil))) (.inl ⟨rfl, rfl⟩) (fun t' ht' => ?_)
  refine Stk.gen (fun t H n => t 0 = .ssl (encs c47 a0) a0.length false ∧ t 1 = .fn (.func g1) first1 caps1 ∧ t 5 = .sc (.int .i64 v1) ∧ t 7 = .sc (.int .i64 (a0.length : Int)) ∧ t 8 = .sc (.int .i64 v1) ∧ t 16 = .sc (.bool x5)) ⟨by simp [ht', f0], by simp [ht', f1], by simp [ht', f5], by simp [ht', f7], by simp [ht', f8], by simp [ht']⟩ ?_
  clear f0 f1 f5 f7 f8 f11 f15 ht' t'
  rintro t H n ⟨f0, f1, f5, f7, f8, f16⟩
  refine Stk.on ?_
  refine Stk.cond x5 (by exact f16) (fun hb6 => ?_) (fun hb6 => ?_)
  ·have h := cT hb6 h
   refine Stk.sq ?_
   refine Stk.rg ?_
   refine Stk.run 2 (fun t H n => t 4 = .sc (.int .i64 v1)) (fun J hJ => ?_) ?_
   ·simp [-splice, f0, f1, f5, f7, f8, f16]
    exact hJ _ _ _ (by simp [-splice, f0, f1, f5, f7, f8, f16])
   clear f0 f1 f5 f7 f8 f16
   rintro t H n f4
   refine Stk.on ?_
   refine Stk.rt ?_
   have hq := Option.some.inj h; subst hq
   exact (hr _ _ _ (.sc (.int .i64 v1)) ([]) (by simp [f4]) (.inr (.inr (.free (rfl))))).1
  ·have h := cF hb6 h
   refine Stk.sk ?_
   refine Stk.bn ?_
   refine Stk.rg ?_
   refine Stk.run 2 (fun t H n => t 0 = .ssl (encs c47 a0) a0.length false ∧ t 1 = .fn (.func g1) first1 caps1 ∧ t 7 = .sc (.int .i64 (a0.length : Int)) ∧ t 8 = .sc (.int .i64 (IntKind.i64.wrap (v1 + 1)))) (fun J hJ => ?_) ?_
   ·simp [-splice, f0, f1, f5, f7, f8, f16]
    exact hJ _ _ _ ⟨by simp [f0], by simp [f1], by simp [f7], by simp [-splice, f0, f1, f5, f7, f8, f16]⟩
   clear f0 f1 f5 f7 f8 f16
   rintro t H n ⟨f0, f1, f7, f8⟩
   refine Stk.on ?_
   exact Stk.ln μ (Nat.lt_succ_self _) (hJ1 _ _ _ _ ⟨(IntKind.i64.wrap (v1 + 1)), h, f0, f1, f7, f8⟩)
 ·have h := cF hb3 h
  refine Stk.ex rfl ?_
  refine Stk.sq ?_
  refine Stk.rg ?_
  refine Stk.run 1 (fun t H n => t 4 = .sc (.int .i64 (-1))) (fun J hJ => ?_) ?_
  ·simp [-splice, f0, f1, f7, f8, f9]
   exact hJ _ _ _ (by simp [-splice, f0, f1, f7, f8, f9])
  clear f0 f1 f7 f8 f9
  rintro t H n f4
  refine Stk.on ?_
  refine Stk.rt ?_
  have hq := Option.some.inj h; subst hq
  exact (hr _ _ _ (.sc (.int .i64 (-1))) ([]) (by simp [f4]) (.inr (.inr (.free (rfl))))).1
theorem ok_slices_ContainsFunc_int_int (F : Nat) (a0 : (List (List Int))) (φ1 : (List Int) → Option Bool) (g1 : FuncId) (first1 caps1 : List AV) (fr1 : freeL first1 = true ∧ freeL caps1 = true) (hφ1 : ∀ y0 r, φ1 y0 = some r → RunF Try.prog T.T g1 (first1 ++ [.ssl (encs c3 y0) y0.length false] ++ caps1) (.sc (.bool r))) (r : Bool) (h : slices_ContainsFunc_int_int F a0 φ1 = some r) : RunF Try.prog T.T 28 [.ssl (encs c47 a0) a0.length false, .fn (.func g1) first1 caps1] (.sc (.bool r)) := by
 rw [slices_ContainsFunc_int_int] at h
 refine RunF.z Try.func28 rfl rfl rfl rfl rfl (fun C hr => ?_)
 refine Stk.gen (fun t H n => t 0 = .ssl (encs c47 a0) a0.length false ∧ t 1 = .fn (.func g1) first1 caps1) ⟨by simp, by simp⟩ ?_
 rintro t H n ⟨f0, f1⟩
 refine Stk.sq ?_
 refine Stk.rg ?_
 refine Stk.run 1 (fun t H n => t 0 = .ssl (encs c47 a0) a0.length false ∧ t 1 = .fn (.func g1) first1 caps1) (fun J hJ => ?_) ?_
 ·simp [-splice, f0, f1]
  exact hJ _ _ _ ⟨by simp [f0], by simp [f1]⟩
 clear f0 f1
 rintro t H n ⟨f0, f1⟩
 refine Stk.on ?_
 refine Stk.sq ?_
 refine Stk.rg ?_
 refine Stk.run 2 (fun t H n => t 5 = .ssl (encs c47 a0) a0.length false ∧ t 6 = .fn (.func g1) first1 caps1) (fun J hJ => ?_) ?_
 ·simp [-splice, f0, f1]
  exact hJ _ _ _ ⟨by simp [-splice, f0, f1], by simp [-splice, f0, f1]⟩
 clear f0 f1
 rintro t H n ⟨f5, f6⟩
 obtain ⟨x1, hx1, h⟩ := bnd h
 refine Stk.cv (g := 44) (args := [.ssl (encs c47 a0) a0.length false, .fn (.func g1) first1 caps1]) (args' := [.ssl (encs c47 a0) a0.length false, .fn (.func g1) first1 caps1]) (v := .sc (.int .i64 x1)) [] (ok_slices_IndexFunc_int_int F _ _ _ _ _ fr1 hφ1 _ hx1) (by simp [f5, f6]) rfl rfl (by simp [f5, f6]) (.cons (.free (freeL_encs fr47 _)) (.cons (.free (by simp [free, fr1])) (.nil))) (.inl ⟨rfl, rfl⟩) (fun t' ht' => ?_)
 refine Stk.gen (fun t H n => t 7 = .sc (.int .i64 x1)) (by simp [ht']) ?_
 clear f5 f6 ht' t'
 rintro t H n f7
 refine Stk.run 2 (fun t H n => t 4 = .sc (.bool (decide (0 ≤ x1)))) (fun J hJ => ?_) ?_
 ·simp [-splice, f7]
  exact hJ _ _ _ (by simp [-splice, f7])
 clear f7
 rintro t H n f4
 refine Stk.on ?_
 refine Stk.rt ?_
 have hq := Option.some.inj h; subst hq
 exact (hr _ _ _ (.sc (.bool (decide (0 ≤ x1)))) ([]) (by simp [f4]) (.inr (.inr (.free (rfl))))).1
theorem ok_slices_IndexFunc_int_int_57 (F : Nat) (a0 : (List Int)) (φ1 : Int → Option Bool) (g1 : FuncId) (first1 caps1 : List AV) (fr1 : freeL first1 = true ∧ freeL caps1 = true) (hφ1 : ∀ y0 r, φ1 y0 = some r → RunF Try.prog T.T g1 (first1 ++ [.sc (.int .i64 y0)] ++ caps1) (.sc (.bool r))) (r : Int) (h : slices_IndexFunc_int_int_57 F a0 φ1 = some r) : RunF Try.prog T.T 57 [.ssl (encs c3 a0) a0.length false, .fn (.func g1) first1 caps1] (.sc (.int .i64 r)) := by
 rw [slices_IndexFunc_int_int_57] at h
 refine RunF.z Try.func57 rfl rfl rfl rfl rfl (fun C hr => ?_)
 refine Stk.gen (fun t H n => t 0 = .ssl (encs c3 a0) a0.length false ∧ t 1 = .fn (.func g1) first1 caps1) ⟨by simp, by simp⟩ ?_
 rintro t H n ⟨f0, f1⟩
 refine Stk.sq ?_
 refine Stk.rg ?_
 refine Stk.run 1 (fun t H n => t 0 = .ssl (encs c3 a0) a0.length false ∧ t 1 = .fn (.func g1) first1 caps1) (fun J hJ => ?_) ?_
 ·simp [-splice, f0, f1]
  exact hJ _ _ _ ⟨by simp [f0], by simp [f1]⟩
 clear f0 f1
 rintro t H n ⟨f0, f1⟩
 refine Stk.on ?_
 refine Stk.sq ?_
 refine Stk.sq ?_
 refine Stk.rg ?_
 refine Stk.run 3 (fun t H n => t 0 = .ssl (encs c3 a0) a0.length false ∧ t 1 = .fn (.func g1) first1 caps1 ∧ t 7 = .sc (.int .i64 (a0.length : Int)) ∧ t 8 = .sc (.int .i64 0)) (fun J hJ => ?_) ?_
 ·simp [-splice, f0, f1]
  exact hJ _ _ _ ⟨by simp [f0], by simp [f1], by simp [-splice, f0, f1], by simp [-splice, f0, f1]⟩
 clear f0 f1
 rintro t H n ⟨f0, f1, f7, f8⟩
 refine Stk.on ?_
 refine Stk.bk ?_
 refine Stk.lo (fun μ t H n => ∃ v1 : Int, slices_IndexFunc_int_int_57_L0 F a0 φ1 μ v1 = some r ∧ t 0 = .ssl (encs c3 a0) a0.length false ∧ t 1 = .fn (.func g1) first1 caps1 ∧ t 7 = .sc (.int .i64 (a0.length : Int)) ∧ t 8 = .sc (.int .i64 v1)) F ⟨0, h, f0, f1, f7, f8⟩ ?_
 clear h f0 f1 f7 f8
 rintro J1 hJ1 μ t H n ⟨v1, h, f0, f1, f7, f8⟩
 cases μ with
 | zero => exact absurd h (by simp [slices_IndexFunc_int_int_57_L0])
 | succ μ =>
 rw [slices_IndexFunc_int_int_57_L0] at h
 refine Stk.sq ?_
 refine Stk.rg ?_
 refine Stk.run 1 (fun t H n => t 0 = .ssl (encs c3 a0) a0.length false ∧ t 1 = .fn (.func g1) first1 caps1 ∧ t 7 = .sc (.int .i64 (a0.length : Int)) ∧ t 8 = .sc (.int .i64 v1) ∧ t 9 = .sc (.bool (decide (v1 < (a0.length : Int))))) (fun J hJ => ?_) ?_
 ·simp [-splice, f0, f1, f7, f8]
  exact hJ _ _ _ ⟨by simp [f0], by simp [f1], by simp [f7], by simp [f8], by simp [-splice, f0, f1, f7, f8]⟩
 clear f0 f1 f7 f8
 rintro t H n ⟨f0, f1, f7, f8, f9⟩
 refine Stk.on ?_
 refine Stk.sq ?_
 refine Stk.cond (decide (v1 < (a0.length : Int))) (by exact f9) (fun hb3 => ?_) (fun hb3 => ?_)
 ·have h := cT hb3 h
  refine Stk.sk ?_
  refine Stk.sq ?_
  refine Stk.bk ?_
  refine Stk.sq ?_
  refine Stk.rg ?_
  refine Stk.run 2 (fun t H n => t 0 = .ssl (encs c3 a0) a0.length false ∧ t 1 = .fn (.func g1) first1 caps1 ∧ t 5 = .sc (.int .i64 v1) ∧ t 7 = .sc (.int .i64 (a0.length : Int)) ∧ t 8 = .sc (.int .i64 v1)) (fun J hJ => ?_) ?_
  ·simp [-splice, f0, f1, f7, f8, f9]
   exact hJ _ _ _ ⟨by simp [f0], by simp [f1], by simp [-splice, f0, f1, f7, f8, f9], by simp [f7], by simp [f8]⟩
  clear f0 f1 f7 f8 f9
  rintro t H n ⟨f0, f1, f5, f7, f8⟩
  refine Stk.on ?_
  refine Stk.sq ?_
  refine Stk.rg ?_
  obtain ⟨x4, hx4, h⟩ := bnd h
  obtain ⟨i0x4, i1x4, i2x4, _⟩ := idx_ok hx4
  have ex4_0_3 : partOf T.T 3 (encs c3 a0) (v1.toNat) = some (.sc (.int .i64 x4)) := by
    have e0 := part_elem0 (e := c3) (z := 1) (T := T.T) (ty := 3) T.t3 (by decide) (by decide) hx4 0 (by decide)
    (try simp only [Nat.mul_one, Nat.add_zero] at e0)
    exact e0.trans rfl
  refine Stk.run 5 (fun t H n => t 0 = .ssl (encs c3 a0) a0.length false ∧ t 1 = .fn (.func g1) first1 caps1 ∧ t 5 = .sc (.int .i64 v1) ∧ t 7 = .sc (.int .i64 (a0.length : Int)) ∧ t 8 = .sc (.int .i64 v1) ∧ t 11 = .fn (.func g1) first1 caps1 ∧ t 15 = .sc (.int .i64 x4)) (fun J hJ => ?_) ?_
  ·simp [-splice, f0, f1, f5, f7, f8, i0x4, i1x4, pd3, ex4_0_3]
   exact hJ _ _ _ ⟨by simp [f0], by simp [f1], by simp [f5], by simp [f7], by simp [f8], by simp [-splice, f0, f1, f5, f7, f8, i0x4, i1x4, pd3, ex4_0_3], by simp [-splice, f0, f1, f5, f7, f8, i0x4, i1x4, pd3, ex4_0_3]⟩
  clear f0 f1 f5 f7 f8
  rintro t H n ⟨f0, f1, f5, f7, f8, f11, f15⟩
  obtain ⟨x5, hx5, h⟩ := bnd h
  refine Stk.cv (g := g1) (args := first1 ++ [.sc (.int .i64 x4)] ++ caps1) (args' := first1 ++ [.sc (.int .i64 x4)] ++ caps1) (v := .sc (.bool x5)) [] (hφ1 _ _ hx5) (by simp [f0, f1, f5, f7, f8, f11, f15]) rfl f11 (by simp [f0, f1, f5, f7, f8, f11, f15]) (viewL_mid (x := [.sc (.int .i64 x4)]) (y := [.sc (.int .i64 x4)]) fr1.1 fr1.2 (.cons (.free (rfl)) (.nil))) (.inl ⟨rfl, rfl⟩) (fun t' ht' => ?_)
  refine Stk.gen (fun t H n => t 0 = .ssl (encs c3 a0) a0.length false ∧ t 1 = .fn (.func g1) first1 caps1 ∧ t 5 = .sc (.int .i64 v1) ∧ t 7 = .sc (.int .i64 (a0.length : Int)) ∧ t 8 = .sc (.int .i64 v1) ∧ t 16 = .sc (.bool x5)) ⟨by simp [ht', f0], by simp [ht', f1], by simp [ht', f5], by simp [ht', f7], by simp [ht', f8], by simp [ht']⟩ ?_
  clear f0 f1 f5 f7 f8 f11 f15 ht' t'
  rintro t H n ⟨f0, f1, f5, f7, f8, f16⟩
  refine Stk.on ?_
  refine Stk.cond x5 (by exact f16) (fun hb6 => ?_) (fun hb6 => ?_)
  ·have h := cT hb6 h
   refine Stk.sq ?_
   refine Stk.rg ?_
   refine Stk.run 2 (fun t H n => t 4 = .sc (.int .i64 v1)) (fun J hJ => ?_) ?_
   ·simp [-splice, f0, f1, f5, f7, f8, f16]
    exact hJ _ _ _ (by simp [-splice, f0, f1, f5, f7, f8, f16])
   clear f0 f1 f5 f7 f8 f16
   rintro t H n f4
   refine Stk.on ?_
   refine Stk.rt ?_
   have hq := Option.some.inj h; subst hq
   exact (hr _ _ _ (.sc (.int .i64 v1)) ([]) (by simp [f4]) (.inr (.inr (.free (rfl))))).1
  ·have h := cF hb6 h
   refine Stk.sk ?_
   refine Stk.bn ?_
   refine Stk.rg ?_
   refine Stk.run 2 (fun t H n => t 0 = .ssl (encs c3 a0) a0.length false ∧ t 1 = .fn (.func g1) first1 caps1 ∧ t 7 = .sc (.int .i64 (a0.length : Int)) ∧ t 8 = .sc (.int .i64 (IntKind.i64.wrap (v1 + 1)))) (fun J hJ => ?_) ?_
   ·simp [-splice, f0, f1, f5, f7, f8, f16]
    exact hJ _ _ _ ⟨by simp [f0], by simp [f1], by simp [f7], by simp [-splice, f0, f1, f5, f7, f8, f16]⟩
   clear f0 f1 f5 f7 f8 f16
   rintro t H n ⟨f0, f1, f7, f8⟩
   refine Stk.on ?_
   exact Stk.ln μ (Nat.lt_succ_self _) (hJ1 _ _ _ _ ⟨(IntKind.i64.wrap (v1 + 1)), h, f0, f1, f7, f8⟩)
 ·have h := cF hb3 h
  refine Stk.ex rfl ?_
  refine Stk.sq ?_
  refine Stk.rg ?_
  refine Stk.run 1 (fun t H n => t 4 = .sc (.int .i64 (-1))) (fun J hJ => ?_) ?_
  ·simp [-splice, f0, f1, f7, f8, f9]
   exact hJ _ _ _ (by simp [-splice, f0, f1, f7, f8, f9])
  clear f0 f1 f7 f8 f9
  rintro t H n f4
  refine Stk.on ?_
  refine Stk.rt ?_
  have hq := Option.some.inj h; subst hq
  exact (hr _ _ _ (.sc (.int .i64 (-1))) ([]) (by simp [f4]) (.inr (.inr (.free (rfl))))).1
theorem ok_slices_ContainsFunc_int_int_45 (F : Nat) (a0 : (List Int)) (φ1 : Int → Option Bool) (g1 : FuncId) (first1 caps1 : List AV) (fr1 : freeL first1 = true ∧ freeL caps1 = true) (hφ1 : ∀ y0 r, φ1 y0 = some r → RunF Try.prog T.T g1 (first1 ++ [.sc (.int .i64 y0)] ++ caps1) (.sc (.bool r))) (r : Bool) (h : slices_ContainsFunc_int_int_45 F a0 φ1 = some r) : RunF Try.prog T.T 45 [.ssl (encs c3 a0) a0.length false, .fn (.func g1) first1 caps1] (.sc (.bool r)) := by
 rw [slices_ContainsFunc_int_int_45] at h
 refine RunF.z Try.func45 rfl rfl rfl rfl rfl (fun C hr => ?_)
 refine Stk.gen (fun t H n => t 0 = .ssl (encs c3 a0) a0.length false ∧ t 1 = .fn (.func g1) first1 caps1) ⟨by simp, by simp⟩ ?_
 rintro t H n ⟨f0, f1⟩
 refine Stk.sq ?_
 refine Stk.rg ?_
 refine Stk.run 1 (fun t H n => t 0 = .ssl (encs c3 a0) a0.length false ∧ t 1 = .fn (.func g1) first1 caps1) (fun J hJ => ?_) ?_
 ·simp [-splice, f0, f1]
  exact hJ _ _ _ ⟨by simp [f0], by simp [f1]⟩
 clear f0 f1
 rintro t H n ⟨f0, f1⟩
 refine Stk.on ?_
 refine Stk.sq ?_
 refine Stk.rg ?_
 refine Stk.run 2 (fun t H n => t 5 = .ssl (encs c3 a0) a0.length false ∧ t 6 = .fn (.func g1) first1 caps1) (fun J hJ => ?_) ?_
 ·simp [-splice, f0, f1]
  exact hJ _ _ _ ⟨by simp [-splice, f0, f1], by simp [-splice, f0, f1]⟩
 clear f0 f1
 rintro t H n ⟨f5, f6⟩
 obtain ⟨x1, hx1, h⟩ := bnd h
 refine Stk.cv (g := 57) (args := [.ssl (encs c3 a0) a0.length false, .fn (.func g1) first1 caps1]) (args' := [.ssl (encs c3 a0) a0.length false, .fn (.func g1) first1 caps1]) (v := .sc (.int .i64 x1)) [] (ok_slices_IndexFunc_int_int_57 F _ _ _ _ _ fr1 hφ1 _ hx1) (by simp [f5, f6]) rfl rfl (by simp [f5, f6]) (.cons (.free (freeL_encs fr3 _)) (.cons (.free (by simp [free, fr1])) (.nil))) (.inl ⟨rfl, rfl⟩) (fun t' ht' => ?_)
 refine Stk.gen (fun t H n => t 7 = .sc (.int .i64 x1)) (by simp [ht']) ?_
 clear f5 f6 ht' t'
 rintro t H n f7
 refine Stk.run 2 (fun t H n => t 4 = .sc (.bool (decide (0 ≤ x1)))) (fun J hJ => ?_) ?_
 ·simp [-splice, f7]
  exact hJ _ _ _ (by simp [-splice, f7])
 clear f7
 rintro t H n f4
 refine Stk.on ?_
 refine Stk.rt ?_
 have hq := Option.some.inj h; subst hq
 exact (hr _ _ _ (.sc (.bool (decide (0 ≤ x1)))) ([]) (by simp [f4]) (.inr (.inr (.free (rfl))))).1
theorem ok_code_fitTable_1 (F : Nat) (a0 : Int) (r : Bool) (h : code_fitTable_1 F a0 = some r) : RunF Try.prog T.T 46 [.sc (.int .i64 a0)] (.sc (.bool r)) := by
 rw [code_fitTable_1] at h
 refine RunF.z Try.func46 rfl rfl rfl rfl rfl (fun C hr => ?_)
 refine Stk.gen (fun t H n => t 0 = .sc (.int .i64 a0)) (by simp) ?_
 rintro t H n f0
 refine Stk.sq ?_
 refine Stk.rg ?_
 refine Stk.run 1 (fun t H n => t 0 = .sc (.int .i64 a0)) (fun J hJ => ?_) ?_
 ·simp [-splice, f0]
  exact hJ _ _ _ (by simp [f0])
 clear f0
 rintro t H n f0
 refine Stk.on ?_
 refine Stk.sq ?_
 refine Stk.rg ?_
 refine Stk.run 1 (fun t H n => t 3 = .sc (.int .i64 a0)) (fun J hJ => ?_) ?_
 ·simp [-splice, f0]
  exact hJ _ _ _ (by simp [-splice, f0])
 clear f0
 rintro t H n f3
 obtain ⟨x1, hx1, h⟩ := bnd h
 refine Stk.cv (g := 39) (args := [.sc (.int .i64 a0), .sc (.int .i64 (-1)), .sc (.int .i64 1048575)]) (args' := [.sc (.int .i64 a0), .sc (.int .i64 (-1)), .sc (.int .i64 1048575)]) (v := .sc (.bool x1)) [] (ok_code_between F _ _ _ _ hx1) (by simp [f3]) rfl rfl (by simp [f3]) (.cons (.free (rfl)) (.cons (.free (rfl)) (.cons (.free (rfl)) (.nil)))) (.inl ⟨rfl, rfl⟩) (fun t' ht' => ?_)
 refine Stk.gen (fun t H n => t 4 = .sc (.bool x1)) (by simp [ht']) ?_
 clear f3 ht' t'
 rintro t H n f4
 refine Stk.run 2 (fun t H n => t 2 = .sc (.bool (!x1))) (fun J hJ => ?_) ?_
 ·simp [-splice, f4]
  exact hJ _ _ _ (by simp [-splice, f4])
 clear f4
 rintro t H n f2
 refine Stk.on ?_
 refine Stk.rt ?_
 have hq := Option.some.inj h; subst hq
 exact (hr _ _ _ (.sc (.bool (!x1))) ([]) (by simp [f2]) (.inr (.inr (.free (rfl))))).1
theorem ok_code_fitTable (F : Nat) (a0 : (List Int)) (r : Bool) (h : code_fitTable F a0 = some r) : RunF Try.prog T.T 30 [.ssl (encs c3 a0) a0.length false] (.sc (.bool r)) := by
 rw [code_fitTable] at h
 refine RunF.z Try.func30 rfl rfl rfl rfl rfl (fun C hr => ?_)
 refine Stk.gen (fun t H n => t 0 = .ssl (encs c3 a0) a0.length false) (by simp) ?_
 rintro t H n f0
 refine Stk.sq ?_
 refine Stk.rg ?_
 refine Stk.run 1 (fun t H n => t 0 = .ssl (encs c3 a0) a0.length false) (fun J hJ => ?_) ?_
 ·simp [-splice, f0]
  exact hJ _ _ _ (by simp [f0])
 clear f0
 rintro t H n f0
 refine Stk.on ?_
 refine Stk.sq ?_
 refine Stk.rg ?_
 refine Stk.run 2 (fun t H n => t 0 = .ssl (encs c3 a0) a0.length false ∧ t 4 = .sc (.int .i64 (a0.length : Int))) (fun J hJ => ?_) ?_
 ·simp [-splice, f0]
  exact hJ _ _ _ ⟨by simp [f0], by simp [-splice, f0]⟩
 clear f0
 rintro t H n ⟨f0, f4⟩
 obtain ⟨x1, hx1, h⟩ := bnd h
 refine Stk.cv (g := 39) (args := [.sc (.int .i64 (a0.length : Int)), .sc (.int .i64 1), .sc (.int .i64 16)]) (args' := [.sc (.int .i64 (a0.length : Int)), .sc (.int .i64 1), .sc (.int .i64 16)]) (v := .sc (.bool x1)) [] (ok_code_between F _ _ _ _ hx1) (by simp [f0, f4]) rfl rfl (by simp [f0, f4]) (.cons (.free (rfl)) (.cons (.free (rfl)) (.cons (.free (rfl)) (.nil)))) (.inl ⟨rfl, rfl⟩) (fun t' ht' => ?_)
 refine Stk.gen (fun t H n => t 0 = .ssl (encs c3 a0) a0.length false ∧ t 5 = .sc (.bool x1)) ⟨by simp [ht', f0], by simp [ht']⟩ ?_
 clear f0 f4 ht' t'
 rintro t H n ⟨f0, f5⟩
 refine Stk.run 1 (fun t H n => t 0 = .ssl (encs c3 a0) a0.length false ∧ t 6 = .sc (.bool x1)) (fun J hJ => ?_) ?_
 ·simp [-splice, f0, f5]
  exact hJ _ _ _ ⟨by simp [f0], by simp [-splice, f0, f5]⟩
 clear f0 f5
 rintro t H n ⟨f0, f6⟩
 obtain ⟨K1, hK1, h⟩ := jnd h
 refine Stk.jo 4 (fun t H n => ∃ v2 : Bool, K1 v2 = some r ∧ t 10 = .sc (.bool v2)) (fun J1 hJ1 => ?_) ?_
 ·rcases Bool.eq_false_or_eq_true x1 with hb1 | hb1
  ·rw [hb1] at f6
   replace h := cT hb1 h
   refine Stk.run 1 (fun t H n => t 6 = .sc (.bool true) ∧ t 7 = .ssl (encs c3 a0) a0.length false) (fun J hJ => ?_) ?_
   ·simp [-splice, f0, f6]
    exact hJ _ _ _ ⟨by simp [f6], by simp [-splice, f0, f6]⟩
   clear f0 f6
   rintro t H n ⟨f6, f7⟩
   obtain ⟨x3, hx3, h⟩ := bnd h
   refine Stk.cv (g := 45) (args := [.ssl (encs c3 a0) a0.length false, .fn (.func 46) [] []]) (args' := [.ssl (encs c3 a0) a0.length false, .fn (.func 46) [] []]) (v := .sc (.bool x3)) [] (ok_slices_ContainsFunc_int_int_45 F _ _ 46 [] [] ⟨by simp [freeL, free], by simp [freeL, free]⟩ (fun y0 r h => ok_code_fitTable_1 F y0 r h) _ hx3) (by simp [f6, f7]) rfl rfl (by simp [f6, f7]) (.cons (.free (freeL_encs fr3 _)) (.cons (.fn .nil (.nil)) (.nil))) (.inl ⟨rfl, rfl⟩) (fun t' ht' => ?_)
   refine Stk.gen (fun t H n => t 6 = .sc (.bool true) ∧ t 8 = .sc (.bool x3)) ⟨by simp [ht', f6], by simp [ht']⟩ ?_
   clear f6 f7 ht' t'
   rintro t H n ⟨f6, f8⟩
   refine Stk.run 2 (fun t H n => t 10 = .sc (.bool (!x3))) (fun J hJ => ?_) ?_
   ·simp [-splice, f6, f8]
    exact hJ _ _ _ (by simp [-splice, f6, f8])
   clear f6 f8
   rintro t H n f10
   refine Stk.on ?_
   exact Stk.ln 0 (by decide) (hJ1 _ _ _ ⟨(!x3), h, f10⟩)
  ·rw [hb1] at f6
   replace h := cF hb1 h
   refine Stk.run 4 (fun t H n => t 10 = .sc (.bool false)) (fun J hJ => ?_) ?_
   ·simp [-splice, f0, f6]
    exact hJ _ _ _ (by simp [-splice, f0, f6])
   clear f0 f6
   rintro t H n f10
   refine Stk.on ?_
   exact Stk.ln 0 (by decide) (hJ1 _ _ _ ⟨false, h, f10⟩)
 clear h f0 f6
 rintro t H n ⟨v2, h, f10⟩
 subst hK1
 refine Stk.run 1 (fun t H n => t 2 = .sc (.bool v2)) (fun J hJ => ?_) ?_
 ·simp [-splice, f10]
  exact hJ _ _ _ (by simp [-splice, f10])
 clear f10
 rintro t H n f2
 refine Stk.on ?_
 refine Stk.rt ?_
 have hq := Option.some.inj h; subst hq
 exact (hr _ _ _ (.sc (.bool v2)) ([]) (by simp [f2]) (.inr (.inr (.free (rfl))))).1
theorem ok_code_Fit_3 (F : Nat) (a0 : (List Int)) (r : Bool) (h : code_Fit_3 F a0 = some r) : RunF Try.prog T.T 29 [.ssl (encs c3 a0) a0.length false] (.sc (.bool r)) := by
 rw [code_Fit_3] at h
 refine RunF.z Try.func29 rfl rfl rfl rfl rfl (fun C hr => ?_)
 refine Stk.gen (fun t H n => t 0 = .ssl (encs c3 a0) a0.length false) (by simp) ?_
 rintro t H n f0
 refine Stk.sq ?_
 refine Stk.rg ?_
 refine Stk.run 1 (fun t H n => t 0 = .ssl (encs c3 a0) a0.length false) (fun J hJ => ?_) ?_
 ·simp [-splice, f0]
  exact hJ _ _ _ (by simp [f0])
 clear f0
 rintro t H n f0
 refine Stk.on ?_
 refine Stk.sq ?_
 refine Stk.rg ?_
 refine Stk.run 1 (fun t H n => t 3 = .ssl (encs c3 a0) a0.length false) (fun J hJ => ?_) ?_
 ·simp [-splice, f0]
  exact hJ _ _ _ (by simp [-splice, f0])
 clear f0
 rintro t H n f3
 obtain ⟨x1, hx1, h⟩ := bnd h
 refine Stk.cv (g := 30) (args := [.ssl (encs c3 a0) a0.length false]) (args' := [.ssl (encs c3 a0) a0.length false]) (v := .sc (.bool x1)) [] (ok_code_fitTable F _ _ hx1) (by simp [f3]) rfl rfl (by simp [f3]) (.cons (.free (freeL_encs fr3 _)) (.nil)) (.inl ⟨rfl, rfl⟩) (fun t' ht' => ?_)
 refine Stk.gen (fun t H n => t 4 = .sc (.bool x1)) (by simp [ht']) ?_
 clear f3 ht' t'
 rintro t H n f4
 refine Stk.run 2 (fun t H n => t 2 = .sc (.bool (!x1))) (fun J hJ => ?_) ?_
 ·simp [-splice, f4]
  exact hJ _ _ _ (by simp [-splice, f4])
 clear f4
 rintro t H n f2
 refine Stk.on ?_
 refine Stk.rt ?_
 have hq := Option.some.inj h; subst hq
 exact (hr _ _ _ (.sc (.bool (!x1))) ([]) (by simp [f2]) (.inr (.inr (.free (rfl))))).1
theorem ok_code_Fit (F : Nat) (a0 : api_Code) (r : Bool) (h : code_Fit F a0 = some r) : RunF Try.prog T.T 17 [.agg (c26 a0)] (.sc (.bool r)) := by
 rw [code_Fit] at h
 refine RunF.z Try.func17 rfl rfl rfl rfl rfl (fun C hr => ?_)
 refine Stk.gen (fun t H n => t 0 = .agg (c26 a0)) (by simp) ?_
 rintro t H n f0
 refine Stk.sq ?_
 refine Stk.rg ?_
 refine Stk.om (mop_box T.t26 (cs := c26 a0) (by show partOk (t 0) = true; rw [f0]; rfl) (by show cellsOf (t 0) = _; rw [f0]; rfl)) (by simp [f0]) rfl (fun t' ht' => ?_)
 refine Stk.gen (fun t H n => ∃ b1, t 1 = .own b1 0 ∧ H b1 = some (.cells (c26 a0) 26) ∧ b1 < n) ⟨n, by simp [ht'], upd_same _ _ _, Nat.lt_succ_self _⟩ ?_
 clear f0 ht' t'
 rintro t H n ⟨b1, f1, b_b1, l_b1⟩
 refine Stk.run 1 (fun t H n => t 1 = .own b1 0 ∧ H b1 = some (.cells (c26 a0) 26) ∧ b1 < n) (fun J hJ => ?_) ?_
 ·simp [-splice, f1, b_b1]
  exact hJ _ _ _ ⟨by simp [f1], b_b1, l_b1⟩
 clear f1 b_b1 l_b1
 rintro t H n ⟨f1, b_b1, l_b1⟩
 refine Stk.on ?_
 refine Stk.sq ?_
 refine Stk.sq ?_
 refine Stk.rg ?_
 refine Stk.run 5 (fun t H n => t 1 = .own b1 0 ∧ t 7 = .sc (.bool (decide (80 < (a0.Funs.length : Int)))) ∧ H b1 = some (.cells (c26 a0) 26) ∧ b1 < n) (fun J hJ => ?_) ?_
 ·simp [-splice, f1, b_b1, ld_26_0_22]
  exact hJ _ _ _ ⟨by simp [f1], by simp [-splice, f1, b_b1, ld_26_0_22], b_b1, l_b1⟩
 clear f1 b_b1 l_b1
 rintro t H n ⟨f1, f7, b_b1, l_b1⟩
 refine Stk.jo 5 (fun t H n => t 1 = .own b1 0 ∧ t 12 = .sc (.bool ((decide (80 < (a0.Funs.length : Int))) || (decide (4096 < (a0.Texts.length : Int))))) ∧ H b1 = some (.cells (c26 a0) 26) ∧ b1 < n) (fun J1 hJ1 => ?_) ?_
 ·rcases Bool.eq_false_or_eq_true (decide (80 < (a0.Funs.length : Int))) with hb1 | hb1
  ·rw [hb1] at f7
   refine Stk.run 5 (fun t H n => t 1 = .own b1 0 ∧ t 12 = .sc (.bool true) ∧ H b1 = some (.cells (c26 a0) 26) ∧ b1 < n) (fun J hJ => ?_) ?_
   ·simp [-splice, f1, f7, b_b1]
    exact hJ _ _ _ ⟨by simp [f1], by simp [-splice, f1, f7, b_b1], b_b1, l_b1⟩
   clear f1 f7 b_b1 l_b1
   rintro t H n ⟨f1, f12, b_b1, l_b1⟩
   refine Stk.on ?_
   exact Stk.ln 0 (by decide) (hJ1 _ _ _ ⟨f1, f12.trans (congrArg (fun q => AV.sc (.bool q)) (by rw [hb1]; rfl)), b_b1, l_b1⟩)
  ·rw [hb1] at f7
   refine Stk.run 5 (fun t H n => t 1 = .own b1 0 ∧ t 12 = .sc (.bool (decide (4096 < (a0.Texts.length : Int)))) ∧ H b1 = some (.cells (c26 a0) 26) ∧ b1 < n) (fun J hJ => ?_) ?_
   ·simp [-splice, f1, f7, b_b1, ld_26_1_23]
    exact hJ _ _ _ ⟨by simp [f1], by simp [-splice, f1, f7, b_b1, ld_26_1_23], b_b1, l_b1⟩
   clear f1 f7 b_b1 l_b1
   rintro t H n ⟨f1, f12, b_b1, l_b1⟩
   refine Stk.on ?_
   exact Stk.ln 0 (by decide) (hJ1 _ _ _ ⟨f1, f12.trans (congrArg (fun q => AV.sc (.bool q)) (by rw [hb1]; rfl)), b_b1, l_b1⟩)
 clear f1 f7 b_b1 l_b1
 rintro t H n ⟨f1, f12, b_b1, l_b1⟩
 refine Stk.run 1 (fun t H n => t 1 = .own b1 0 ∧ t 13 = .sc (.bool ((decide (80 < (a0.Funs.length : Int))) || (decide (4096 < (a0.Texts.length : Int))))) ∧ H b1 = some (.cells (c26 a0) 26) ∧ b1 < n) (fun J hJ => ?_) ?_
 ·simp [-splice, f1, f12, b_b1]
  exact hJ _ _ _ ⟨by simp [f1], by simp [-splice, f1, f12, b_b1], b_b1, l_b1⟩
 clear f1 f12 b_b1 l_b1
 rintro t H n ⟨f1, f13, b_b1, l_b1⟩
 refine Stk.jo 5 (fun t H n => t 1 = .own b1 0 ∧ t 18 = .sc (.bool (((decide (80 < (a0.Funs.length : Int))) || (decide (4096 < (a0.Texts.length : Int)))) || (decide (65536 < (a0.Tables.length : Int))))) ∧ H b1 = some (.cells (c26 a0) 26) ∧ b1 < n) (fun J2 hJ2 => ?_) ?_
 ·rcases Bool.eq_false_or_eq_true ((decide (80 < (a0.Funs.length : Int))) || (decide (4096 < (a0.Texts.length : Int)))) with hb2 | hb2
  ·rw [hb2] at f13
   refine Stk.run 5 (fun t H n => t 1 = .own b1 0 ∧ t 18 = .sc (.bool true) ∧ H b1 = some (.cells (c26 a0) 26) ∧ b1 < n) (fun J hJ => ?_) ?_
   ·simp [-splice, f1, f13, b_b1]
    exact hJ _ _ _ ⟨by simp [f1], by simp [-splice, f1, f13, b_b1], b_b1, l_b1⟩
   clear f1 f13 b_b1 l_b1
   rintro t H n ⟨f1, f18, b_b1, l_b1⟩
   refine Stk.on ?_
   exact Stk.ln 0 (by decide) (hJ2 _ _ _ ⟨f1, f18.trans (congrArg (fun q => AV.sc (.bool q)) (by rw [hb2]; rfl)), b_b1, l_b1⟩)
  ·rw [hb2] at f13
   refine Stk.run 5 (fun t H n => t 1 = .own b1 0 ∧ t 18 = .sc (.bool (decide (65536 < (a0.Tables.length : Int)))) ∧ H b1 = some (.cells (c26 a0) 26) ∧ b1 < n) (fun J hJ => ?_) ?_
   ·simp [-splice, f1, f13, b_b1, ld_26_2_24]
    exact hJ _ _ _ ⟨by simp [f1], by simp [-splice, f1, f13, b_b1, ld_26_2_24], b_b1, l_b1⟩
   clear f1 f13 b_b1 l_b1
   rintro t H n ⟨f1, f18, b_b1, l_b1⟩
   refine Stk.on ?_
   exact Stk.ln 0 (by decide) (hJ2 _ _ _ ⟨f1, f18.trans (congrArg (fun q => AV.sc (.bool q)) (by rw [hb2]; rfl)), b_b1, l_b1⟩)
 clear f1 f13 b_b1 l_b1
 rintro t H n ⟨f1, f18, b_b1, l_b1⟩
 refine Stk.on ?_
 refine Stk.cond (((decide (80 < (a0.Funs.length : Int))) || (decide (4096 < (a0.Texts.length : Int)))) || (decide (65536 < (a0.Tables.length : Int)))) (by exact f18) (fun hb2 => ?_) (fun hb2 => ?_)
 ·have h := cT hb2 h
  refine Stk.sq ?_
  refine Stk.rg ?_
  refine Stk.run 1 (fun t H n => t 2 = .sc (.bool false)) (fun J hJ => ?_) ?_
  ·simp [-splice, f1, f18, b_b1]
   exact hJ _ _ _ (by simp [-splice, f1, f18, b_b1])
  clear f1 f18 b_b1 l_b1
  rintro t H n f2
  refine Stk.on ?_
  refine Stk.rt ?_
  have hq := Option.some.inj h; subst hq
  exact (hr _ _ _ (.sc (.bool false)) ([]) (by simp [f2]) (.inr (.inr (.free (rfl))))).1
 ·have h := cF hb2 h
  refine Stk.sk ?_
  refine Stk.sq ?_
  refine Stk.rg ?_
  refine Stk.run 2 (fun t H n => t 1 = .own b1 0 ∧ t 20 = .ssl (encs c41 a0.Funs) a0.Funs.length false ∧ H b1 = some (.cells (c26 a0) 26) ∧ b1 < n) (fun J hJ => ?_) ?_
  ·simp [-splice, f1, f18, b_b1, ld_26_0_22]
   exact hJ _ _ _ ⟨by simp [f1], by simp [-splice, f1, f18, b_b1, ld_26_0_22], b_b1, l_b1⟩
  clear f1 f18 b_b1 l_b1
  rintro t H n ⟨f1, f20, b_b1, l_b1⟩
  obtain ⟨x3, hx3, h⟩ := bnd h
  refine Stk.cv (g := 23) (args := [.ssl (encs c41 a0.Funs) a0.Funs.length false, .fn (.func 24) [] []]) (args' := [.ssl (encs c41 a0.Funs) a0.Funs.length false, .fn (.func 24) [] []]) (v := .sc (.bool x3)) [] (ok_slices_ContainsFunc_api_Func_api_Func F _ _ 24 [] [] ⟨by simp [freeL, free], by simp [freeL, free]⟩ (fun y0 r h => ok_code_Fit_1 F y0 r h) _ hx3) (by simp [f1, f20]) rfl rfl (by simp [f1, f20]) (.cons (.free (freeL_encs fr41 _)) (.cons (.fn .nil (.nil)) (.nil))) (.inl ⟨rfl, rfl⟩) (fun t' ht' => ?_)
  refine Stk.gen (fun t H n => t 1 = .own b1 0 ∧ t 21 = .sc (.bool x3) ∧ H b1 = some (.cells (c26 a0) 26) ∧ b1 < n) ⟨by simp [ht', f1], by simp [ht'], b_b1, l_b1⟩ ?_
  clear f1 f20 b_b1 l_b1 ht' t'
  rintro t H n ⟨f1, f21, b_b1, l_b1⟩
  refine Stk.run 2 (fun t H n => t 1 = .own b1 0 ∧ t 23 = .sc (.bool (!x3)) ∧ H b1 = some (.cells (c26 a0) 26) ∧ b1 < n) (fun J hJ => ?_) ?_
  ·simp [-splice, f1, f21, b_b1]
   exact hJ _ _ _ ⟨by simp [f1], by simp [-splice, f1, f21, b_b1], b_b1, l_b1⟩
  clear f1 f21 b_b1 l_b1
  rintro t H n ⟨f1, f23, b_b1, l_b1⟩
  obtain ⟨K3, hK3, h⟩ := jnd h
  refine Stk.jo 5 (fun t H n => ∃ v4 : Bool, K3 v4 = some r ∧ t 1 = .own b1 0 ∧ t 28 = .sc (.bool v4) ∧ H b1 = some (.cells (c26 a0) 26) ∧ b1 < n) (fun J3 hJ3 => ?_) ?_
  ·rcases Bool.eq_false_or_eq_true (!x3) with hb3 | hb3
   ·rw [hb3] at f23
    replace h := cT hb3 h
    refine Stk.run 2 (fun t H n => t 1 = .own b1 0 ∧ t 23 = .sc (.bool true) ∧ t 25 = .ssl (encs c51 a0.Texts) a0.Texts.length false ∧ H b1 = some (.cells (c26 a0) 26) ∧ b1 < n) (fun J hJ => ?_) ?_
    ·simp [-splice, f1, f23, b_b1, ld_26_1_23]
     exact hJ _ _ _ ⟨by simp [f1], by simp [f23], by simp [-splice, f1, f23, b_b1, ld_26_1_23], b_b1, l_b1⟩
    clear f1 f23 b_b1 l_b1
    rintro t H n ⟨f1, f23, f25, b_b1, l_b1⟩
    obtain ⟨x5, hx5, h⟩ := bnd h
    refine Stk.cv (g := 26) (args := [.ssl (encs c51 a0.Texts) a0.Texts.length false, .fn (.func 27) [] []]) (args' := [.ssl (encs c51 a0.Texts) a0.Texts.length false, .fn (.func 27) [] []]) (v := .sc (.bool x5)) [] (ok_slices_ContainsFunc_byte_byte F _ _ 27 [] [] ⟨by simp [freeL, free], by simp [freeL, free]⟩ (fun y0 r h => ok_code_Fit_2 F y0 r h) _ hx5) (by simp [f1, f23, f25]) rfl rfl (by simp [f1, f23, f25]) (.cons (.free (freeL_encs fr51 _)) (.cons (.fn .nil (.nil)) (.nil))) (.inl ⟨rfl, rfl⟩) (fun t' ht' => ?_)
    refine Stk.gen (fun t H n => t 1 = .own b1 0 ∧ t 23 = .sc (.bool true) ∧ t 26 = .sc (.bool x5) ∧ H b1 = some (.cells (c26 a0) 26) ∧ b1 < n) ⟨by simp [ht', f1], by simp [ht', f23], by simp [ht'], b_b1, l_b1⟩ ?_
    clear f1 f23 f25 b_b1 l_b1 ht' t'
    rintro t H n ⟨f1, f23, f26, b_b1, l_b1⟩
    refine Stk.run 2 (fun t H n => t 1 = .own b1 0 ∧ t 28 = .sc (.bool (!x5)) ∧ H b1 = some (.cells (c26 a0) 26) ∧ b1 < n) (fun J hJ => ?_) ?_
    ·simp [-splice, f1, f23, f26, b_b1]
     exact hJ _ _ _ ⟨by simp [f1], by simp [-splice, f1, f23, f26, b_b1], b_b1, l_b1⟩
    clear f1 f23 f26 b_b1 l_b1
    rintro t H n ⟨f1, f28, b_b1, l_b1⟩
    refine Stk.on ?_
    exact Stk.ln 0 (by decide) (hJ3 _ _ _ ⟨(!x5), h, f1, f28, b_b1, l_b1⟩)
   ·rw [hb3] at f23
    replace h := cF hb3 h
    refine Stk.run 5 (fun t H n => t 1 = .own b1 0 ∧ t 28 = .sc (.bool false) ∧ H b1 = some (.cells (c26 a0) 26) ∧ b1 < n) (fun J hJ => ?_) ?_
    ·simp [-splice, f1, f23, b_b1]
     exact hJ _ _ _ ⟨by simp [f1], by simp [-splice, f1, f23, b_b1], b_b1, l_b1⟩
    clear f1 f23 b_b1 l_b1
    rintro t H n ⟨f1, f28, b_b1, l_b1⟩
    refine Stk.on ?_
    exact Stk.ln 0 (by decide) (hJ3 _ _ _ ⟨false, h, f1, f28, b_b1, l_b1⟩)
  clear h f1 f23 b_b1 l_b1
  rintro t H n ⟨v4, h, f1, f28, b_b1, l_b1⟩
  subst hK3
  refine Stk.run 1 (fun t H n => t 1 = .own b1 0 ∧ t 29 = .sc (.bool v4) ∧ H b1 = some (.cells (c26 a0) 26) ∧ b1 < n) (fun J hJ => ?_) ?_
  ·simp [-splice, f1, f28, b_b1]
   exact hJ _ _ _ ⟨by simp [f1], by simp [-splice, f1, f28, b_b1], b_b1, l_b1⟩
  clear f1 f28 b_b1 l_b1
  rintro t H n ⟨f1, f29, b_b1, l_b1⟩
  obtain ⟨K4, hK4, h⟩ := jnd h
  refine Stk.jo 5 (fun t H n => ∃ v6 : Bool, K4 v6 = some r ∧ t 34 = .sc (.bool v6)) (fun J4 hJ4 => ?_) ?_
  ·rcases Bool.eq_false_or_eq_true v4 with hb4 | hb4
   ·rw [hb4] at f29
    replace h := cT hb4 h
    refine Stk.run 2 (fun t H n => t 29 = .sc (.bool true) ∧ t 31 = .ssl (encs c47 a0.Tables) a0.Tables.length false) (fun J hJ => ?_) ?_
    ·simp [-splice, f1, f29, b_b1, ld_26_2_24]
     exact hJ _ _ _ ⟨by simp [f29], by simp [-splice, f1, f29, b_b1, ld_26_2_24]⟩
    clear f1 f29 b_b1 l_b1
    rintro t H n ⟨f29, f31⟩
    obtain ⟨x7, hx7, h⟩ := bnd h
    refine Stk.cv (g := 28) (args := [.ssl (encs c47 a0.Tables) a0.Tables.length false, .fn (.func 29) [] []]) (args' := [.ssl (encs c47 a0.Tables) a0.Tables.length false, .fn (.func 29) [] []]) (v := .sc (.bool x7)) [] (ok_slices_ContainsFunc_int_int F _ _ 29 [] [] ⟨by simp [freeL, free], by simp [freeL, free]⟩ (fun y0 r h => ok_code_Fit_3 F y0 r h) _ hx7) (by simp [f29, f31]) rfl rfl (by simp [f29, f31]) (.cons (.free (freeL_encs fr47 _)) (.cons (.fn .nil (.nil)) (.nil))) (.inl ⟨rfl, rfl⟩) (fun t' ht' => ?_)
    refine Stk.gen (fun t H n => t 29 = .sc (.bool true) ∧ t 32 = .sc (.bool x7)) ⟨by simp [ht', f29], by simp [ht']⟩ ?_
    clear f29 f31 ht' t'
    rintro t H n ⟨f29, f32⟩
    refine Stk.run 2 (fun t H n => t 34 = .sc (.bool (!x7))) (fun J hJ => ?_) ?_
    ·simp [-splice, f29, f32]
     exact hJ _ _ _ (by simp [-splice, f29, f32])
    clear f29 f32
    rintro t H n f34
    refine Stk.on ?_
    exact Stk.ln 0 (by decide) (hJ4 _ _ _ ⟨(!x7), h, f34⟩)
   ·rw [hb4] at f29
    replace h := cF hb4 h
    refine Stk.run 5 (fun t H n => t 34 = .sc (.bool false)) (fun J hJ => ?_) ?_
    ·simp [-splice, f1, f29, b_b1]
     exact hJ _ _ _ (by simp [-splice, f1, f29, b_b1])
    clear f1 f29 b_b1 l_b1
    rintro t H n f34
    refine Stk.on ?_
    exact Stk.ln 0 (by decide) (hJ4 _ _ _ ⟨false, h, f34⟩)
  clear h f1 f29 b_b1 l_b1
  rintro t H n ⟨v6, h, f34⟩
  subst hK4
  refine Stk.run 1 (fun t H n => t 2 = .sc (.bool v6)) (fun J hJ => ?_) ?_
  ·simp [-splice, f34]
   exact hJ _ _ _ (by simp [-splice, f34])
  clear f34
  rintro t H n f2
  refine Stk.on ?_
  refine Stk.rt ?_
  have hq := Option.some.inj h; subst hq
  exact (hr _ _ _ (.sc (.bool v6)) ([]) (by simp [f2]) (.inr (.inr (.free (rfl))))).1
theorem ok_R20_Light (F : Nat) (a0 : api_Code) (a1 : Int) (r : Bool) (h : R20_Light F a0 a1 = some r) : RunF Try.prog T.T 6 [.agg (c26 a0), .sc (.int .i64 a1)] (.sc (.bool r)) := by
 rw [R20_Light] at h
 refine RunF.z Try.func6 rfl rfl rfl rfl rfl (fun C hr => ?_)
 refine Stk.gen (fun t H n => t 0 = .agg (c26 a0) ∧ t 1 = .sc (.int .i64 a1)) ⟨by simp, by simp⟩ ?_
 rintro t H n ⟨f0, f1⟩
 refine Stk.sq ?_
 refine Stk.rg ?_
 refine Stk.om (mop_box T.t26 (cs := c26 a0) (by show partOk (t 0) = true; rw [f0]; rfl) (by show cellsOf (t 0) = _; rw [f0]; rfl)) (by simp [f0, f1]) rfl (fun t' ht' => ?_)
 refine Stk.gen (fun t H n => ∃ b1, t 1 = .sc (.int .i64 a1) ∧ t 2 = .own b1 0 ∧ H b1 = some (.cells (c26 a0) 26) ∧ b1 < n) ⟨n, by simp [ht', f1], by simp [ht'], upd_same _ _ _, Nat.lt_succ_self _⟩ ?_
 clear f0 f1 ht' t'
 rintro t H n ⟨b1, f1, f2, b_b1, l_b1⟩
 refine Stk.run 1 (fun t H n => t 1 = .sc (.int .i64 a1) ∧ t 2 = .own b1 0 ∧ H b1 = some (.cells (c26 a0) 26) ∧ b1 < n) (fun J hJ => ?_) ?_
 ·simp [-splice, f1, f2, b_b1]
  exact hJ _ _ _ ⟨by simp [f1], by simp [f2], b_b1, l_b1⟩
 clear f1 f2 b_b1 l_b1
 rintro t H n ⟨f1, f2, b_b1, l_b1⟩
 refine Stk.on ?_
 refine Stk.sq ?_
 refine Stk.rg ?_
 refine Stk.run 1 (fun t H n => t 1 = .sc (.int .i64 a1) ∧ t 2 = .own b1 0 ∧ t 5 = .sc (.int .i64 0) ∧ H b1 = some (.cells (c26 a0) 26) ∧ b1 < n) (fun J hJ => ?_) ?_
 ·simp [-splice, f1, f2, b_b1]
  exact hJ _ _ _ ⟨by simp [f1], by simp [f2], by simp [-splice, f1, f2, b_b1], b_b1, l_b1⟩
 clear f1 f2 b_b1 l_b1
 rintro t H n ⟨f1, f2, f5, b_b1, l_b1⟩
 refine Stk.on ?_
 refine Stk.sq ?_
 refine Stk.sq ?_
 refine Stk.rg ?_
 refine Stk.run 1 (fun t H n => t 1 = .sc (.int .i64 a1) ∧ t 2 = .own b1 0 ∧ t 5 = .sc (.int .i64 0) ∧ t 6 = .sc (.int .i64 0) ∧ H b1 = some (.cells (c26 a0) 26) ∧ b1 < n) (fun J hJ => ?_) ?_
 ·simp [-splice, f1, f2, f5, b_b1]
  exact hJ _ _ _ ⟨by simp [f1], by simp [f2], by simp [f5], by simp [-splice, f1, f2, f5, b_b1], b_b1, l_b1⟩
 clear f1 f2 f5 b_b1 l_b1
 rintro t H n ⟨f1, f2, f5, f6, b_b1, l_b1⟩
 refine Stk.on ?_
 obtain ⟨K1, hK1, h⟩ := jnd h
 refine Stk.jn (fun t H n => ∃ v2 : Int, K1 v2 = some r ∧ t 1 = .sc (.int .i64 a1) ∧ t 2 = .own b1 0 ∧ t 5 = .sc (.int .i64 v2) ∧ H b1 = some (.cells (c26 a0) 26) ∧ b1 < n) trivial (fun J1 hJ1 => ?_) ?_
 ·skip
  refine Stk.bk ?_
  refine Stk.lo (fun μ t H n => ∃ v3 : Int, ∃ v4 : Int, R20_Light_L0 F a0 a1 K1 μ v3 v4 = some r ∧ t 1 = .sc (.int .i64 a1) ∧ t 2 = .own b1 0 ∧ t 5 = .sc (.int .i64 v3) ∧ t 6 = .sc (.int .i64 v4) ∧ H b1 = some (.cells (c26 a0) 26) ∧ b1 < n) F ⟨0, 0, h, f1, f2, f5, f6, b_b1, l_b1⟩ ?_
  clear h f1 f2 f5 f6 b_b1 l_b1
  rintro J2 hJ2 μ t H n ⟨v3, v4, h, f1, f2, f5, f6, b_b1, l_b1⟩
  cases μ with
  | zero => exact absurd h (by simp [R20_Light_L0])
  | succ μ =>
  rw [R20_Light_L0] at h
  refine Stk.sq ?_
  refine Stk.sq ?_
  refine Stk.rg ?_
  refine Stk.run 6 (fun t H n => t 1 = .sc (.int .i64 a1) ∧ t 2 = .own b1 0 ∧ t 5 = .sc (.int .i64 v3) ∧ t 6 = .sc (.int .i64 v4) ∧ t 14 = .sc (.bool (decide (v4 < (a0.Funs.length : Int)))) ∧ H b1 = some (.cells (c26 a0) 26) ∧ b1 < n) (fun J hJ => ?_) ?_
  ·simp [-splice, f1, f2, f5, f6, b_b1, ld_26_0_22]
   exact hJ _ _ _ ⟨by simp [f1], by simp [f2], by simp [f5], by simp [f6], by simp [-splice, f1, f2, f5, f6, b_b1, ld_26_0_22], b_b1, l_b1⟩
  clear f1 f2 f5 f6 b_b1 l_b1
  rintro t H n ⟨f1, f2, f5, f6, f14, b_b1, l_b1⟩
  refine Stk.jo 4 (fun t H n => t 1 = .sc (.int .i64 a1) ∧ t 2 = .own b1 0 ∧ t 5 = .sc (.int .i64 v3) ∧ t 6 = .sc (.int .i64 v4) ∧ t 18 = .sc (.bool ((decide (v4 < (a0.Funs.length : Int))) && (decide (v3 ≤ a1)))) ∧ H b1 = some (.cells (c26 a0) 26) ∧ b1 < n) (fun J3 hJ3 => ?_) ?_
  ·rcases Bool.eq_false_or_eq_true (decide (v4 < (a0.Funs.length : Int))) with hb3 | hb3
   ·rw [hb3] at f14
    refine Stk.run 4 (fun t H n => t 1 = .sc (.int .i64 a1) ∧ t 2 = .own b1 0 ∧ t 5 = .sc (.int .i64 v3) ∧ t 6 = .sc (.int .i64 v4) ∧ t 18 = .sc (.bool (decide (v3 ≤ a1))) ∧ H b1 = some (.cells (c26 a0) 26) ∧ b1 < n) (fun J hJ => ?_) ?_
    ·simp [-splice, f1, f2, f5, f6, f14, b_b1]
     exact hJ _ _ _ ⟨by simp [f1], by simp [f2], by simp [f5], by simp [f6], by simp [-splice, f1, f2, f5, f6, f14, b_b1], b_b1, l_b1⟩
    clear f1 f2 f5 f6 f14 b_b1 l_b1
    rintro t H n ⟨f1, f2, f5, f6, f18, b_b1, l_b1⟩
    refine Stk.on ?_
    exact Stk.ln 0 (by decide) (hJ3 _ _ _ ⟨f1, f2, f5, f6, f18.trans (congrArg (fun q => AV.sc (.bool q)) (by rw [hb3]; rfl)), b_b1, l_b1⟩)
   ·rw [hb3] at f14
    refine Stk.run 4 (fun t H n => t 1 = .sc (.int .i64 a1) ∧ t 2 = .own b1 0 ∧ t 5 = .sc (.int .i64 v3) ∧ t 6 = .sc (.int .i64 v4) ∧ t 18 = .sc (.bool false) ∧ H b1 = some (.cells (c26 a0) 26) ∧ b1 < n) (fun J hJ => ?_) ?_
    ·simp [-splice, f1, f2, f5, f6, f14, b_b1]
     exact hJ _ _ _ ⟨by simp [f1], by simp [f2], by simp [f5], by simp [f6], by simp [-splice, f1, f2, f5, f6, f14, b_b1], b_b1, l_b1⟩
    clear f1 f2 f5 f6 f14 b_b1 l_b1
    rintro t H n ⟨f1, f2, f5, f6, f18, b_b1, l_b1⟩
    refine Stk.on ?_
    exact Stk.ln 0 (by decide) (hJ3 _ _ _ ⟨f1, f2, f5, f6, f18.trans (congrArg (fun q => AV.sc (.bool q)) (by rw [hb3]; rfl)), b_b1, l_b1⟩)
  clear f1 f2 f5 f6 f14 b_b1 l_b1
  rintro t H n ⟨f1, f2, f5, f6, f18, b_b1, l_b1⟩
  refine Stk.on ?_
  refine Stk.cond ((decide (v4 < (a0.Funs.length : Int))) && (decide (v3 ≤ a1))) (by exact f18) (fun hb7 => ?_) (fun hb7 => ?_)
  ·have h := cT hb7 h
   refine Stk.sk ?_
   refine Stk.sq ?_
   refine Stk.bk ?_
   obtain ⟨n0, hn0⟩ : ∃ m, m = n := ⟨n, rfl⟩
   have ln0 : n0 ≤ n := Nat.le_of_eq hn0
   refine Stk.rgD [.rd [], .rd [], .rd [], .rd [b1], .rd [], .rd [], .rd [], .rd [], .rd [], .rd [], .rd [], .rd [b1], .rd [], .rd [], .rd [], .rd [], .rd [], .rd [], .rd []] none (by kernel_rfl) (by rfl) rfl (by simp [below, hn0, l_b1]) rfl ?_
   obtain ⟨x8, hx8, h⟩ := bnd h
   obtain ⟨i0x8, i1x8, i2x8, _⟩ := idx_ok hx8
   have ex8_3_39 : partOf T.T 39 (encs c41 a0.Funs) (v4.toNat * 4 + 3) = some (.ssl (encs c44 x8.Code) x8.Code.length false) := by
     have e0 := part_elem0 (e := c41) (z := 4) (T := T.T) (ty := 39) T.t39 (by decide) (by decide) hx8 3 (by decide)
     (try simp only [Nat.mul_one, Nat.add_zero] at e0)
     exact e0.trans (ld_41_3_39 _)
   have ex8_0_9 : partOf T.T 9 (encs c41 a0.Funs) (v4.toNat * 4) = some (.sc (.string x8.Name)) := by
     have e0 := part_elem0 (e := c41) (z := 4) (T := T.T) (ty := 9) T.t9 (by decide) (by decide) hx8 0 (by decide)
     (try simp only [Nat.mul_one, Nat.add_zero] at e0)
     exact e0.trans (ld_41_0_9 _)
   refine Stk.runD 19 (fun t H n => t 1 = .sc (.int .i64 a1) ∧ t 2 = .own b1 0 ∧ t 5 = .sc (.int .i64 (IntKind.i64.wrap ((IntKind.i64.wrap ((IntKind.i64.wrap (v3 + 1)) + (x8.Code.length : Int))) + (x8.Name.size : Int)))) ∧ t 6 = .sc (.int .i64 v4) ∧ H b1 = some (.cells (c26 a0) 26) ∧ b1 < n ∧ n0 ≤ n) (fun J hJ => ?_) ?_
   ·simp [-splice, f1, f2, f5, f6, f18, b_b1, ld_26_0_22, i0x8, i1x8, pd39, ex8_3_39, pd9, ex8_0_9]
    exact hJ _ _ _ ⟨by simp [f1], by simp [f2], by simp [-splice, f1, f2, f5, f6, f18, b_b1, ld_26_0_22, i0x8, i1x8, pd39, ex8_3_39, pd9, ex8_0_9], by simp [f6], b_b1, l_b1, ln0⟩
   clear f1 f2 f5 f6 f18 b_b1 l_b1 ln0
   rintro t H n ⟨f1, f2, f5, f6, b_b1, l_b1, ln0⟩
   refine Stk.onD ?_
   refine Stk.bn ?_
   refine Stk.rg ?_
   refine Stk.run 3 (fun t H n => t 1 = .sc (.int .i64 a1) ∧ t 2 = .own b1 0 ∧ t 5 = .sc (.int .i64 (IntKind.i64.wrap ((IntKind.i64.wrap ((IntKind.i64.wrap (v3 + 1)) + (x8.Code.length : Int))) + (x8.Name.size : Int)))) ∧ t 6 = .sc (.int .i64 (IntKind.i64.wrap (v4 + 1))) ∧ H b1 = some (.cells (c26 a0) 26) ∧ b1 < n) (fun J hJ => ?_) ?_
   ·simp [-splice, f1, f2, f5, f6, b_b1]
    exact hJ _ _ _ ⟨by simp [f1], by simp [f2], by simp [f5], by simp [-splice, f1, f2, f5, f6, b_b1], b_b1, l_b1⟩
   clear f1 f2 f5 f6 b_b1 l_b1 ln0
   rintro t H n ⟨f1, f2, f5, f6, b_b1, l_b1⟩
   refine Stk.on ?_
   exact Stk.ln μ (Nat.lt_succ_self _) (hJ2 _ _ _ _ ⟨(IntKind.i64.wrap ((IntKind.i64.wrap ((IntKind.i64.wrap (v3 + 1)) + (x8.Code.length : Int))) + (x8.Name.size : Int))), (IntKind.i64.wrap (v4 + 1)), h, f1, f2, f5, f6, b_b1, l_b1⟩)
  ·have h := cF hb7 h
   refine Stk.ex rfl ?_
   exact Stk.ln 0 (by decide) (hJ1 _ _ _ ⟨v3, h, f1, f2, f5, b_b1, l_b1⟩)
 clear h f1 f2 f5 f6 b_b1 l_b1
 rintro t H n ⟨v2, h, f1, f2, f5, b_b1, l_b1⟩
 subst hK1
 refine Stk.sq ?_
 refine Stk.sq ?_
 refine Stk.rg ?_
 refine Stk.run 1 (fun t H n => t 1 = .sc (.int .i64 a1) ∧ t 2 = .own b1 0 ∧ t 5 = .sc (.int .i64 v2) ∧ t 7 = .sc (.int .i64 0) ∧ H b1 = some (.cells (c26 a0) 26) ∧ b1 < n) (fun J hJ => ?_) ?_
 ·simp [-splice, f1, f2, f5, b_b1]
  exact hJ _ _ _ ⟨by simp [f1], by simp [f2], by simp [f5], by simp [-splice, f1, f2, f5, b_b1], b_b1, l_b1⟩
 clear f1 f2 f5 b_b1 l_b1
 rintro t H n ⟨f1, f2, f5, f7, b_b1, l_b1⟩
 refine Stk.on ?_
 obtain ⟨K4, hK4, h⟩ := jnd h
 refine Stk.jn (fun t H n => ∃ v9 : Int, K4 v9 = some r ∧ t 1 = .sc (.int .i64 a1) ∧ t 2 = .own b1 0 ∧ t 5 = .sc (.int .i64 v9) ∧ H b1 = some (.cells (c26 a0) 26) ∧ b1 < n) trivial (fun J4 hJ4 => ?_) ?_
 ·skip
  refine Stk.bk ?_
  refine Stk.lo (fun μ t H n => ∃ v10 : Int, ∃ v11 : Int, R20_Light_L1 F a0 a1 K4 μ v10 v11 = some r ∧ t 1 = .sc (.int .i64 a1) ∧ t 2 = .own b1 0 ∧ t 5 = .sc (.int .i64 v10) ∧ t 7 = .sc (.int .i64 v11) ∧ H b1 = some (.cells (c26 a0) 26) ∧ b1 < n) F ⟨v2, 0, h, f1, f2, f5, f7, b_b1, l_b1⟩ ?_
  clear h f1 f2 f5 f7 b_b1 l_b1
  rintro J5 hJ5 μ t H n ⟨v10, v11, h, f1, f2, f5, f7, b_b1, l_b1⟩
  cases μ with
  | zero => exact absurd h (by simp [R20_Light_L1])
  | succ μ =>
  rw [R20_Light_L1] at h
  refine Stk.sq ?_
  refine Stk.sq ?_
  refine Stk.rg ?_
  refine Stk.run 6 (fun t H n => t 1 = .sc (.int .i64 a1) ∧ t 2 = .own b1 0 ∧ t 5 = .sc (.int .i64 v10) ∧ t 7 = .sc (.int .i64 v11) ∧ t 44 = .sc (.bool (decide (v11 < (a0.Texts.length : Int)))) ∧ H b1 = some (.cells (c26 a0) 26) ∧ b1 < n) (fun J hJ => ?_) ?_
  ·simp [-splice, f1, f2, f5, f7, b_b1, ld_26_1_23]
   exact hJ _ _ _ ⟨by simp [f1], by simp [f2], by simp [f5], by simp [f7], by simp [-splice, f1, f2, f5, f7, b_b1, ld_26_1_23], b_b1, l_b1⟩
  clear f1 f2 f5 f7 b_b1 l_b1
  rintro t H n ⟨f1, f2, f5, f7, f44, b_b1, l_b1⟩
  refine Stk.jo 4 (fun t H n => t 1 = .sc (.int .i64 a1) ∧ t 2 = .own b1 0 ∧ t 5 = .sc (.int .i64 v10) ∧ t 7 = .sc (.int .i64 v11) ∧ t 48 = .sc (.bool ((decide (v11 < (a0.Texts.length : Int))) && (decide (v10 ≤ a1)))) ∧ H b1 = some (.cells (c26 a0) 26) ∧ b1 < n) (fun J6 hJ6 => ?_) ?_
  ·rcases Bool.eq_false_or_eq_true (decide (v11 < (a0.Texts.length : Int))) with hb6 | hb6
   ·rw [hb6] at f44
    refine Stk.run 4 (fun t H n => t 1 = .sc (.int .i64 a1) ∧ t 2 = .own b1 0 ∧ t 5 = .sc (.int .i64 v10) ∧ t 7 = .sc (.int .i64 v11) ∧ t 48 = .sc (.bool (decide (v10 ≤ a1))) ∧ H b1 = some (.cells (c26 a0) 26) ∧ b1 < n) (fun J hJ => ?_) ?_
    ·simp [-splice, f1, f2, f5, f7, f44, b_b1]
     exact hJ _ _ _ ⟨by simp [f1], by simp [f2], by simp [f5], by simp [f7], by simp [-splice, f1, f2, f5, f7, f44, b_b1], b_b1, l_b1⟩
    clear f1 f2 f5 f7 f44 b_b1 l_b1
    rintro t H n ⟨f1, f2, f5, f7, f48, b_b1, l_b1⟩
    refine Stk.on ?_
    exact Stk.ln 0 (by decide) (hJ6 _ _ _ ⟨f1, f2, f5, f7, f48.trans (congrArg (fun q => AV.sc (.bool q)) (by rw [hb6]; rfl)), b_b1, l_b1⟩)
   ·rw [hb6] at f44
    refine Stk.run 4 (fun t H n => t 1 = .sc (.int .i64 a1) ∧ t 2 = .own b1 0 ∧ t 5 = .sc (.int .i64 v10) ∧ t 7 = .sc (.int .i64 v11) ∧ t 48 = .sc (.bool false) ∧ H b1 = some (.cells (c26 a0) 26) ∧ b1 < n) (fun J hJ => ?_) ?_
    ·simp [-splice, f1, f2, f5, f7, f44, b_b1]
     exact hJ _ _ _ ⟨by simp [f1], by simp [f2], by simp [f5], by simp [f7], by simp [-splice, f1, f2, f5, f7, f44, b_b1], b_b1, l_b1⟩
    clear f1 f2 f5 f7 f44 b_b1 l_b1
    rintro t H n ⟨f1, f2, f5, f7, f48, b_b1, l_b1⟩
    refine Stk.on ?_
    exact Stk.ln 0 (by decide) (hJ6 _ _ _ ⟨f1, f2, f5, f7, f48.trans (congrArg (fun q => AV.sc (.bool q)) (by rw [hb6]; rfl)), b_b1, l_b1⟩)
  clear f1 f2 f5 f7 f44 b_b1 l_b1
  rintro t H n ⟨f1, f2, f5, f7, f48, b_b1, l_b1⟩
  refine Stk.on ?_
  refine Stk.cond ((decide (v11 < (a0.Texts.length : Int))) && (decide (v10 ≤ a1))) (by exact f48) (fun hb14 => ?_) (fun hb14 => ?_)
  ·have h := cT hb14 h
   refine Stk.sk ?_
   refine Stk.sq ?_
   refine Stk.bk ?_
   refine Stk.rg ?_
   obtain ⟨x15, hx15, h⟩ := bnd h
   obtain ⟨i0x15, i1x15, i2x15, _⟩ := idx_ok hx15
   have ex15_0_51 : partOf T.T 51 (encs c51 a0.Texts) (v11.toNat) = some (.ssl (encs c5 x15) x15.length false) := by
     have e0 := part_elem0 (e := c51) (z := 1) (T := T.T) (ty := 51) T.t51 (by decide) (by decide) hx15 0 (by decide)
     (try simp only [Nat.mul_one, Nat.add_zero] at e0)
     exact e0.trans rfl
   refine Stk.run 10 (fun t H n => t 1 = .sc (.int .i64 a1) ∧ t 2 = .own b1 0 ∧ t 5 = .sc (.int .i64 (IntKind.i64.wrap ((IntKind.i64.wrap (v10 + 1)) + (x15.length : Int)))) ∧ t 7 = .sc (.int .i64 v11) ∧ H b1 = some (.cells (c26 a0) 26) ∧ b1 < n) (fun J hJ => ?_) ?_
   ·simp [-splice, f1, f2, f5, f7, f48, b_b1, ld_26_1_23, i0x15, i1x15, pd51, ex15_0_51]
    exact hJ _ _ _ ⟨by simp [f1], by simp [f2], by simp [-splice, f1, f2, f5, f7, f48, b_b1, ld_26_1_23, i0x15, i1x15, pd51, ex15_0_51], by simp [f7], b_b1, l_b1⟩
   clear f1 f2 f5 f7 f48 b_b1 l_b1
   rintro t H n ⟨f1, f2, f5, f7, b_b1, l_b1⟩
   refine Stk.on ?_
   refine Stk.bn ?_
   refine Stk.rg ?_
   refine Stk.run 3 (fun t H n => t 1 = .sc (.int .i64 a1) ∧ t 2 = .own b1 0 ∧ t 5 = .sc (.int .i64 (IntKind.i64.wrap ((IntKind.i64.wrap (v10 + 1)) + (x15.length : Int)))) ∧ t 7 = .sc (.int .i64 (IntKind.i64.wrap (v11 + 1))) ∧ H b1 = some (.cells (c26 a0) 26) ∧ b1 < n) (fun J hJ => ?_) ?_
   ·simp [-splice, f1, f2, f5, f7, b_b1]
    exact hJ _ _ _ ⟨by simp [f1], by simp [f2], by simp [f5], by simp [-splice, f1, f2, f5, f7, b_b1], b_b1, l_b1⟩
   clear f1 f2 f5 f7 b_b1 l_b1
   rintro t H n ⟨f1, f2, f5, f7, b_b1, l_b1⟩
   refine Stk.on ?_
   exact Stk.ln μ (Nat.lt_succ_self _) (hJ5 _ _ _ _ ⟨(IntKind.i64.wrap ((IntKind.i64.wrap (v10 + 1)) + (x15.length : Int))), (IntKind.i64.wrap (v11 + 1)), h, f1, f2, f5, f7, b_b1, l_b1⟩)
  ·have h := cF hb14 h
   refine Stk.ex rfl ?_
   exact Stk.ln 0 (by decide) (hJ4 _ _ _ ⟨v10, h, f1, f2, f5, b_b1, l_b1⟩)
 clear h f1 f2 f5 f7 b_b1 l_b1
 rintro t H n ⟨v9, h, f1, f2, f5, b_b1, l_b1⟩
 subst hK4
 refine Stk.sq ?_
 refine Stk.sq ?_
 refine Stk.rg ?_
 refine Stk.run 1 (fun t H n => t 1 = .sc (.int .i64 a1) ∧ t 2 = .own b1 0 ∧ t 5 = .sc (.int .i64 v9) ∧ t 8 = .sc (.int .i64 0) ∧ H b1 = some (.cells (c26 a0) 26) ∧ b1 < n) (fun J hJ => ?_) ?_
 ·simp [-splice, f1, f2, f5, b_b1]
  exact hJ _ _ _ ⟨by simp [f1], by simp [f2], by simp [f5], by simp [-splice, f1, f2, f5, b_b1], b_b1, l_b1⟩
 clear f1 f2 f5 b_b1 l_b1
 rintro t H n ⟨f1, f2, f5, f8, b_b1, l_b1⟩
 refine Stk.on ?_
 refine Stk.bk ?_
 refine Stk.lo (fun μ t H n => ∃ v16 : Int, ∃ v17 : Int, R20_Light_L2 F a0 a1 μ v16 v17 = some r ∧ t 1 = .sc (.int .i64 a1) ∧ t 2 = .own b1 0 ∧ t 5 = .sc (.int .i64 v16) ∧ t 8 = .sc (.int .i64 v17) ∧ H b1 = some (.cells (c26 a0) 26) ∧ b1 < n) F ⟨v9, 0, h, f1, f2, f5, f8, b_b1, l_b1⟩ ?_
 clear h f1 f2 f5 f8 b_b1 l_b1
 rintro J7 hJ7 μ t H n ⟨v16, v17, h, f1, f2, f5, f8, b_b1, l_b1⟩
 cases μ with
 | zero => exact absurd h (by simp [R20_Light_L2])
 | succ μ =>
 rw [R20_Light_L2] at h
 refine Stk.sq ?_
 refine Stk.sq ?_
 refine Stk.rg ?_
 refine Stk.run 6 (fun t H n => t 1 = .sc (.int .i64 a1) ∧ t 2 = .own b1 0 ∧ t 5 = .sc (.int .i64 v16) ∧ t 8 = .sc (.int .i64 v17) ∧ t 65 = .sc (.bool (decide (v17 < (a0.Tables.length : Int)))) ∧ H b1 = some (.cells (c26 a0) 26) ∧ b1 < n) (fun J hJ => ?_) ?_
 ·simp [-splice, f1, f2, f5, f8, b_b1, ld_26_2_24]
  exact hJ _ _ _ ⟨by simp [f1], by simp [f2], by simp [f5], by simp [f8], by simp [-splice, f1, f2, f5, f8, b_b1, ld_26_2_24], b_b1, l_b1⟩
 clear f1 f2 f5 f8 b_b1 l_b1
 rintro t H n ⟨f1, f2, f5, f8, f65, b_b1, l_b1⟩
 refine Stk.jo 4 (fun t H n => t 1 = .sc (.int .i64 a1) ∧ t 2 = .own b1 0 ∧ t 5 = .sc (.int .i64 v16) ∧ t 8 = .sc (.int .i64 v17) ∧ t 69 = .sc (.bool ((decide (v17 < (a0.Tables.length : Int))) && (decide (v16 ≤ a1)))) ∧ H b1 = some (.cells (c26 a0) 26) ∧ b1 < n) (fun J8 hJ8 => ?_) ?_
 ·rcases Bool.eq_false_or_eq_true (decide (v17 < (a0.Tables.length : Int))) with hb8 | hb8
  ·rw [hb8] at f65
   refine Stk.run 4 (fun t H n => t 1 = .sc (.int .i64 a1) ∧ t 2 = .own b1 0 ∧ t 5 = .sc (.int .i64 v16) ∧ t 8 = .sc (.int .i64 v17) ∧ t 69 = .sc (.bool (decide (v16 ≤ a1))) ∧ H b1 = some (.cells (c26 a0) 26) ∧ b1 < n) (fun J hJ => ?_) ?_
   ·simp [-splice, f1, f2, f5, f8, f65, b_b1]
    exact hJ _ _ _ ⟨by simp [f1], by simp [f2], by simp [f5], by simp [f8], by simp [-splice, f1, f2, f5, f8, f65, b_b1], b_b1, l_b1⟩
   clear f1 f2 f5 f8 f65 b_b1 l_b1
   rintro t H n ⟨f1, f2, f5, f8, f69, b_b1, l_b1⟩
   refine Stk.on ?_
   exact Stk.ln 0 (by decide) (hJ8 _ _ _ ⟨f1, f2, f5, f8, f69.trans (congrArg (fun q => AV.sc (.bool q)) (by rw [hb8]; rfl)), b_b1, l_b1⟩)
  ·rw [hb8] at f65
   refine Stk.run 4 (fun t H n => t 1 = .sc (.int .i64 a1) ∧ t 2 = .own b1 0 ∧ t 5 = .sc (.int .i64 v16) ∧ t 8 = .sc (.int .i64 v17) ∧ t 69 = .sc (.bool false) ∧ H b1 = some (.cells (c26 a0) 26) ∧ b1 < n) (fun J hJ => ?_) ?_
   ·simp [-splice, f1, f2, f5, f8, f65, b_b1]
    exact hJ _ _ _ ⟨by simp [f1], by simp [f2], by simp [f5], by simp [f8], by simp [-splice, f1, f2, f5, f8, f65, b_b1], b_b1, l_b1⟩
   clear f1 f2 f5 f8 f65 b_b1 l_b1
   rintro t H n ⟨f1, f2, f5, f8, f69, b_b1, l_b1⟩
   refine Stk.on ?_
   exact Stk.ln 0 (by decide) (hJ8 _ _ _ ⟨f1, f2, f5, f8, f69.trans (congrArg (fun q => AV.sc (.bool q)) (by rw [hb8]; rfl)), b_b1, l_b1⟩)
 clear f1 f2 f5 f8 f65 b_b1 l_b1
 rintro t H n ⟨f1, f2, f5, f8, f69, b_b1, l_b1⟩
 refine Stk.on ?_
 refine Stk.cond ((decide (v17 < (a0.Tables.length : Int))) && (decide (v16 ≤ a1))) (by exact f69) (fun hb20 => ?_) (fun hb20 => ?_)
 ·have h := cT hb20 h
  refine Stk.sk ?_
  refine Stk.sq ?_
  refine Stk.bk ?_
  refine Stk.rg ?_
  obtain ⟨x21, hx21, h⟩ := bnd h
  obtain ⟨i0x21, i1x21, i2x21, _⟩ := idx_ok hx21
  have ex21_0_47 : partOf T.T 47 (encs c47 a0.Tables) (v17.toNat) = some (.ssl (encs c3 x21) x21.length false) := by
    have e0 := part_elem0 (e := c47) (z := 1) (T := T.T) (ty := 47) T.t47 (by decide) (by decide) hx21 0 (by decide)
    (try simp only [Nat.mul_one, Nat.add_zero] at e0)
    exact e0.trans rfl
  refine Stk.run 10 (fun t H n => t 1 = .sc (.int .i64 a1) ∧ t 2 = .own b1 0 ∧ t 5 = .sc (.int .i64 (IntKind.i64.wrap ((IntKind.i64.wrap (v16 + 1)) + (x21.length : Int)))) ∧ t 8 = .sc (.int .i64 v17) ∧ H b1 = some (.cells (c26 a0) 26) ∧ b1 < n) (fun J hJ => ?_) ?_
  ·simp [-splice, f1, f2, f5, f8, f69, b_b1, ld_26_2_24, i0x21, i1x21, pd47, ex21_0_47]
   exact hJ _ _ _ ⟨by simp [f1], by simp [f2], by simp [-splice, f1, f2, f5, f8, f69, b_b1, ld_26_2_24, i0x21, i1x21, pd47, ex21_0_47], by simp [f8], b_b1, l_b1⟩
  clear f1 f2 f5 f8 f69 b_b1 l_b1
  rintro t H n ⟨f1, f2, f5, f8, b_b1, l_b1⟩
  refine Stk.on ?_
  refine Stk.bn ?_
  refine Stk.rg ?_
  refine Stk.run 3 (fun t H n => t 1 = .sc (.int .i64 a1) ∧ t 2 = .own b1 0 ∧ t 5 = .sc (.int .i64 (IntKind.i64.wrap ((IntKind.i64.wrap (v16 + 1)) + (x21.length : Int)))) ∧ t 8 = .sc (.int .i64 (IntKind.i64.wrap (v17 + 1))) ∧ H b1 = some (.cells (c26 a0) 26) ∧ b1 < n) (fun J hJ => ?_) ?_
  ·simp [-splice, f1, f2, f5, f8, b_b1]
   exact hJ _ _ _ ⟨by simp [f1], by simp [f2], by simp [f5], by simp [-splice, f1, f2, f5, f8, b_b1], b_b1, l_b1⟩
  clear f1 f2 f5 f8 b_b1 l_b1
  rintro t H n ⟨f1, f2, f5, f8, b_b1, l_b1⟩
  refine Stk.on ?_
  exact Stk.ln μ (Nat.lt_succ_self _) (hJ7 _ _ _ _ ⟨(IntKind.i64.wrap ((IntKind.i64.wrap (v16 + 1)) + (x21.length : Int))), (IntKind.i64.wrap (v17 + 1)), h, f1, f2, f5, f8, b_b1, l_b1⟩)
 ·have h := cF hb20 h
  refine Stk.ex rfl ?_
  refine Stk.sq ?_
  refine Stk.rg ?_
  refine Stk.run 4 (fun t H n => t 4 = .sc (.bool (decide (v16 ≤ a1)))) (fun J hJ => ?_) ?_
  ·simp [-splice, f1, f2, f5, f8, f69, b_b1]
   exact hJ _ _ _ (by simp [-splice, f1, f2, f5, f8, f69, b_b1])
  clear f1 f2 f5 f8 f69 b_b1 l_b1
  rintro t H n f4
  refine Stk.on ?_
  refine Stk.rt ?_
  have hq := Option.some.inj h; subst hq
  exact (hr _ _ _ (.sc (.bool (decide (v16 ≤ a1)))) ([]) (by simp [f4]) (.inr (.inr (.free (rfl))))).1
end Go.Proofs.Ytcdafogfmijcpaa.M
