/-
 The functions come to them.
-/
import Derived.Test.YtcdafogfmijcpaaFaM
namespace Go.Proofs.Ytcdafogfmijcpaa.M
open Go.Proofs.YtcdafogfmijcpaaW.Ah Go.Proofs.Ytcdafogfmijcpaa
set_option linter.unusedVariables false
set_option linter.unusedSimpArgs false
set_option maxRecDepth 8000
attribute [local simp] T.t3 T.t4 T.t22 T.t39 T.t41 T.t44 List.range List.range.loop
attribute [-simp] appendAV fillAV
theorem ok_slices_IndexFunc_api_Func_api_Func (F : Nat) (a0 : (List api_Func)) (φ1 : api_Func → Option Bool) (g1 : FuncId) (first1 caps1 : List AV) (fr1 : freeL first1 = true ∧ freeL caps1 = true) (hφ1 : ∀ y0 r, φ1 y0 = some r → RunF Try.prog T.T g1 (first1 ++ [.agg (c41 y0)] ++ caps1) (.sc (.bool r))) (r : Int) (h : slices_IndexFunc_api_Func_api_Func F a0 φ1 = some r) : RunF Try.prog T.T 38 [.ssl (encs c41 a0) a0.length false, .fn (.func g1) first1 caps1] (.sc (.int .i64 r)) := by
 rw [slices_IndexFunc_api_Func_api_Func] at h
 refine RunF.z Try.func38 rfl rfl rfl rfl rfl (fun C hr => ?_)
 refine Stk.gen (fun t H n => t 0 = .ssl (encs c41 a0) a0.length false ∧ t 1 = .fn (.func g1) first1 caps1) ⟨by simp, by simp⟩ ?_
 rintro t H n ⟨f0, f1⟩
 refine Stk.sq ?_
 refine Stk.rg ?_
 refine Stk.run 1 (fun t H n => t 0 = .ssl (encs c41 a0) a0.length false ∧ t 1 = .fn (.func g1) first1 caps1) (fun J hJ => ?_) ?_
 ·simp [-splice, f0, f1]
  exact hJ _ _ _ ⟨by simp [f0], by simp [f1]⟩
 clear f0 f1
 rintro t H n ⟨f0, f1⟩
 refine Stk.on ?_
 refine Stk.sq ?_
 refine Stk.sq ?_
 refine Stk.rg ?_
 refine Stk.run 3 (fun t H n => t 0 = .ssl (encs c41 a0) a0.length false ∧ t 1 = .fn (.func g1) first1 caps1 ∧ t 7 = .sc (.int .i64 (a0.length : Int)) ∧ t 8 = .sc (.int .i64 0)) (fun J hJ => ?_) ?_
 ·simp [-splice, f0, f1]
  exact hJ _ _ _ ⟨by simp [f0], by simp [f1], by simp [-splice, f0, f1], by simp [-splice, f0, f1]⟩
 clear f0 f1
 rintro t H n ⟨f0, f1, f7, f8⟩
 refine Stk.on ?_
 refine Stk.bk ?_
 refine Stk.lo (fun μ t H n => ∃ v1 : Int, slices_IndexFunc_api_Func_api_Func_L0 F a0 φ1 μ v1 = some r ∧ t 0 = .ssl (encs c41 a0) a0.length false ∧ t 1 = .fn (.func g1) first1 caps1 ∧ t 7 = .sc (.int .i64 (a0.length : Int)) ∧ t 8 = .sc (.int .i64 v1)) F ⟨0, h, f0, f1, f7, f8⟩ ?_
 clear h f0 f1 f7 f8
 rintro J1 hJ1 μ t H n ⟨v1, h, f0, f1, f7, f8⟩
 cases μ with
 | zero => exact absurd h (by simp [slices_IndexFunc_api_Func_api_Func_L0])
 | succ μ =>
 rw [slices_IndexFunc_api_Func_api_Func_L0] at h
 refine Stk.sq ?_
 refine Stk.rg ?_
 refine Stk.run 1 (fun t H n => t 0 = .ssl (encs c41 a0) a0.length false ∧ t 1 = .fn (.func g1) first1 caps1 ∧ t 7 = .sc (.int .i64 (a0.length : Int)) ∧ t 8 = .sc (.int .i64 v1) ∧ t 9 = .sc (.bool (decide (v1 < (a0.length : Int))))) (fun J hJ => ?_) ?_
 ·simp [-splice, f0, f1, f7, f8]
  exact hJ _ _ _ ⟨by simp [f0], by simp [f1], by simp [f7], by simp [f8], by simp [-splice, f0, f1, f7, f8]⟩
 clear f0 f1 f7 f8
 rintro t H n ⟨f0, f1, f7, f8, f9⟩
 refine Stk.on ?_
 refine Stk.sq ?_
 refine Stk.cond (decide (v1 < (a0.length : Int))) (by exact f9) (fun hb3 => ?_) (fun hb3 => ?_)
 ·have h := cT hb3 h
  refine Stk.sk ?_
  refine Stk.sq ?_
  refine Stk.bk ?_
  refine Stk.sq ?_
  refine Stk.rg ?_
  refine Stk.run 2 (fun t H n => t 0 = .ssl (encs c41 a0) a0.length false ∧ t 1 = .fn (.func g1) first1 caps1 ∧ t 5 = .sc (.int .i64 v1) ∧ t 7 = .sc (.int .i64 (a0.length : Int)) ∧ t 8 = .sc (.int .i64 v1)) (fun J hJ => ?_) ?_
  ·simp [-splice, f0, f1, f7, f8, f9]
   exact hJ _ _ _ ⟨by simp [f0], by simp [f1], by simp [-splice, f0, f1, f7, f8, f9], by simp [f7], by simp [f8]⟩
  clear f0 f1 f7 f8 f9
  rintro t H n ⟨f0, f1, f5, f7, f8⟩
  refine Stk.on ?_
  refine Stk.sq ?_
  refine Stk.rg ?_
  obtain ⟨x4, hx4, h⟩ := bnd h
  obtain ⟨i0x4, i1x4, i2x4, _⟩ := idx_ok hx4
  have ex4_0_41 : partOf T.T 41 (encs c41 a0) (v1.toNat * 4) = some (.agg (c41 x4)) := by
    have e0 := part_elem0 (e := c41) (z := 4) (T := T.T) (ty := 41) T.t41 (by decide) (by decide) hx4 0 (by decide)
    (try simp only [Nat.mul_one, Nat.add_zero] at e0)
    exact e0.trans (ld_41_0_41 _)
  refine Stk.run 5 (fun t H n => t 0 = .ssl (encs c41 a0) a0.length false ∧ t 1 = .fn (.func g1) first1 caps1 ∧ t 5 = .sc (.int .i64 v1) ∧ t 7 = .sc (.int .i64 (a0.length : Int)) ∧ t 8 = .sc (.int .i64 v1) ∧ t 11 = .fn (.func g1) first1 caps1 ∧ t 15 = .agg (c41 x4)) (fun J hJ => ?_) ?_
  ·simp [-splice, f0, f1, f5, f7, f8, i0x4, i1x4, pd41, ex4_0_41]
   exact hJ _ _ _ ⟨by simp [f0], by simp [f1], by simp [f5], by simp [f7], by simp [f8], by simp [-splice, f0, f1, f5, f7, f8, i0x4, i1x4, pd41, ex4_0_41], by simp [-splice, f0, f1, f5, f7, f8, i0x4, i1x4, pd41, ex4_0_41]⟩
  clear f0 f1 f5 f7 f8
  rintro t H n ⟨f0, f1, f5, f7, f8, f11, f15⟩
  obtain ⟨x5, hx5, h⟩ := bnd h
  refine Stk.cv (g := g1) (args := first1 ++ [.agg (c41 x4)] ++ caps1) (args' := first1 ++ [.agg (c41 x4)] ++ caps1) (v := .sc (.bool x5)) [] (hφ1 _ _ hx5) (by simp [f0, f1, f5, f7, f8, f11, f15]) rfl f11 (by simp [f0, f1, f5, f7, f8, f11, f15]) (viewL_mid (x := [.agg (c41 x4)]) (y := [.agg (c41 x4)]) fr1.1 fr1.2 (.cons (.free (fr41 _)) (.nil))) (.inl ⟨rfl, rfl⟩) (fun t' ht' => ?_)
  refine Stk.gen (fun t H n => t 0 = .ssl (encs c41 a0) a0.length false ∧ t 1 = .fn (.func g1) first1 caps1 ∧ t 5 = .sc (.int .i64 v1) ∧ t 7 = .sc (.int .i64 (a0.length : Int)) ∧ t 8 = .sc (.int .i64 v1) ∧ t 16 = .sc (.bool x5)) ⟨by simp [ht', f0], by simp [ht', f1], by simp [ht', f5], by simp [ht', f7], by simp [ht', f8], by simp [ht']⟩ ?_
  clear f0 f1 f5 f7 f8 f11 f15 ht' t'
  rintro t H n ⟨f0, f1, f5, f7, f8, f16⟩
  refine Stk.on ?_
  refine Stk.cond x5 (by exact f16) (fun hb6 => ?_) (fun hb6 => ?_)
  ·have h := cT hb6 h
   refine Stk.sq ?_
   refine Stk.rg ?_
   refine Stk.run 2 (fun t H n => t 4 = .sc (.int .i64 v1)) (fun J hJ => ?_) ?_
   ·simp [-splice, f0, f1, f5, f7, f8, f16]
    exact hJ _ _ _ (by simp [-splice, f0, f1, f5, f7, f8, f16])
   clear f0 f1 f5 f7 f8 f16
   rintro t H n f4
   refine Stk.on ?_
   refine Stk.rt ?_
   have hq := Option.some.inj h; subst hq
   exact (hr _ _ _ (.sc (.int .i64 v1)) ([]) (by simp [f4]) (.inr (.inr (.free (rfl))))).1
  ·have h := cF hb6 h
   refine Stk.sk ?_
   refine Stk.bn ?_
   refine Stk.rg ?_
   refine Stk.run 2 (fun t H n => t 0 = .ssl (encs c41 a0) a0.length false ∧ t 1 = .fn (.func g1) first1 caps1 ∧ t 7 = .sc (.int .i64 (a0.length : Int)) ∧ t 8 = .sc (.int .i64 (IntKind.i64.wrap (v1 + 1)))) (fun J hJ => ?_) ?_
   ·simp [-splice, f0, f1, f5, f7, f8, f16]
    exact hJ _ _ _ ⟨by simp [f0], by simp [f1], by simp [f7], by simp [-splice, f0, f1, f5, f7, f8, f16]⟩
   clear f0 f1 f5 f7 f8 f16
   rintro t H n ⟨f0, f1, f7, f8⟩
   refine Stk.on ?_
   exact Stk.ln μ (Nat.lt_succ_self _) (hJ1 _ _ _ _ ⟨(IntKind.i64.wrap (v1 + 1)), h, f0, f1, f7, f8⟩)
 ·have h := cF hb3 h
  refine Stk.ex rfl ?_
  refine Stk.sq ?_
  refine Stk.rg ?_
  refine Stk.run 1 (fun t H n => t 4 = .sc (.int .i64 (-1))) (fun J hJ => ?_) ?_
  ·simp [-splice, f0, f1, f7, f8, f9]
   exact hJ _ _ _ (by simp [-splice, f0, f1, f7, f8, f9])
  clear f0 f1 f7 f8 f9
  rintro t H n f4
  refine Stk.on ?_
  refine Stk.rt ?_
  have hq := Option.some.inj h; subst hq
  exact (hr _ _ _ (.sc (.int .i64 (-1))) ([]) (by simp [f4]) (.inr (.inr (.free (rfl))))).1
theorem ok_slices_ContainsFunc_api_Func_api_Func (F : Nat) (a0 : (List api_Func)) (φ1 : api_Func → Option Bool) (g1 : FuncId) (first1 caps1 : List AV) (fr1 : freeL first1 = true ∧ freeL caps1 = true) (hφ1 : ∀ y0 r, φ1 y0 = some r → RunF Try.prog T.T g1 (first1 ++ [.agg (c41 y0)] ++ caps1) (.sc (.bool r))) (r : Bool) (h : slices_ContainsFunc_api_Func_api_Func F a0 φ1 = some r) : RunF Try.prog T.T 23 [.ssl (encs c41 a0) a0.length false, .fn (.func g1) first1 caps1] (.sc (.bool r)) := by
 rw [slices_ContainsFunc_api_Func_api_Func] at h
 refine RunF.z Try.func23 rfl rfl rfl rfl rfl (fun C hr => ?_)
 refine Stk.gen (fun t H n => t 0 = .ssl (encs c41 a0) a0.length false ∧ t 1 = .fn (.func g1) first1 caps1) ⟨by simp, by simp⟩ ?_
 rintro t H n ⟨f0, f1⟩
 refine Stk.sq ?_
 refine Stk.rg ?_
 refine Stk.run 1 (fun t H n => t 0 = .ssl (encs c41 a0) a0.length false ∧ t 1 = .fn (.func g1) first1 caps1) (fun J hJ => ?_) ?_
 ·simp [-splice, f0, f1]
  exact hJ _ _ _ ⟨by simp [f0], by simp [f1]⟩
 clear f0 f1
 rintro t H n ⟨f0, f1⟩
 refine Stk.on ?_
 refine Stk.sq ?_
 refine Stk.rg ?_
 refine Stk.run 2 (fun t H n => t 5 = .ssl (encs c41 a0) a0.length false ∧ t 6 = .fn (.func g1) first1 caps1) (fun J hJ => ?_) ?_
 ·simp [-splice, f0, f1]
  exact hJ _ _ _ ⟨by simp [-splice, f0, f1], by simp [-splice, f0, f1]⟩
 clear f0 f1
 rintro t H n ⟨f5, f6⟩
 obtain ⟨x1, hx1, h⟩ := bnd h
 refine Stk.cv (g := 38) (args := [.ssl (encs c41 a0) a0.length false, .fn (.func g1) first1 caps1]) (args' := [.ssl (encs c41 a0) a0.length false, .fn (.func g1) first1 caps1]) (v := .sc (.int .i64 x1)) [] (ok_slices_IndexFunc_api_Func_api_Func F _ _ _ _ _ fr1 hφ1 _ hx1) (by simp [f5, f6]) rfl rfl (by simp [f5, f6]) (.cons (.free (freeL_encs fr41 _)) (.cons (.free (by simp [free, fr1])) (.nil))) (.inl ⟨rfl, rfl⟩) (fun t' ht' => ?_)
 refine Stk.gen (fun t H n => t 7 = .sc (.int .i64 x1)) (by simp [ht']) ?_
 clear f5 f6 ht' t'
 rintro t H n f7
 refine Stk.run 2 (fun t H n => t 4 = .sc (.bool (decide (0 ≤ x1)))) (fun J hJ => ?_) ?_
 ·simp [-splice, f7]
  exact hJ _ _ _ (by simp [-splice, f7])
 clear f7
 rintro t H n f4
 refine Stk.on ?_
 refine Stk.rt ?_
 have hq := Option.some.inj h; subst hq
 exact (hr _ _ _ (.sc (.bool (decide (0 ≤ x1)))) ([]) (by simp [f4]) (.inr (.inr (.free (rfl))))).1
theorem ok_code_between (F : Nat) (a0 : Int) (a1 : Int) (a2 : Int) (r : Bool) (h : code_between F a0 a1 a2 = some r) : RunF Try.prog T.T 39 [.sc (.int .i64 a0), .sc (.int .i64 a1), .sc (.int .i64 a2)] (.sc (.bool r)) := by
 rw [code_between] at h
 refine RunF.z Try.func39 rfl rfl rfl rfl rfl (fun C hr => ?_)
 refine Stk.gen (fun t H n => t 0 = .sc (.int .i64 a0) ∧ t 1 = .sc (.int .i64 a1) ∧ t 2 = .sc (.int .i64 a2)) ⟨by simp, by simp, by simp⟩ ?_
 rintro t H n ⟨f0, f1, f2⟩
 refine Stk.sq ?_
 refine Stk.rg ?_
 refine Stk.run 1 (fun t H n => t 0 = .sc (.int .i64 a0) ∧ t 1 = .sc (.int .i64 a1) ∧ t 2 = .sc (.int .i64 a2)) (fun J hJ => ?_) ?_
 ·simp [-splice, f0, f1, f2]
  exact hJ _ _ _ ⟨by simp [f0], by simp [f1], by simp [f2]⟩
 clear f0 f1 f2
 rintro t H n ⟨f0, f1, f2⟩
 refine Stk.on ?_
 refine Stk.sq ?_
 refine Stk.rg ?_
 refine Stk.run 4 (fun t H n => t 0 = .sc (.int .i64 a0) ∧ t 2 = .sc (.int .i64 a2) ∧ t 10 = .sc (.bool (decide (a1 ≤ a0)))) (fun J hJ => ?_) ?_
 ·simp [-splice, f0, f1, f2]
  exact hJ _ _ _ ⟨by simp [f0], by simp [f2], by simp [-splice, f0, f1, f2]⟩
 clear f0 f1 f2
 rintro t H n ⟨f0, f2, f10⟩
 refine Stk.jo 4 (fun t H n => t 14 = .sc (.bool ((decide (a1 ≤ a0)) && (decide (a0 ≤ a2))))) (fun J1 hJ1 => ?_) ?_
 ·rcases Bool.eq_false_or_eq_true (decide (a1 ≤ a0)) with hb1 | hb1
  ·rw [hb1] at f10
   refine Stk.run 4 (fun t H n => t 14 = .sc (.bool (decide (a0 ≤ a2)))) (fun J hJ => ?_) ?_
   ·simp [-splice, f0, f2, f10]
    exact hJ _ _ _ (by simp [-splice, f0, f2, f10])
   clear f0 f2 f10
   rintro t H n f14
   refine Stk.on ?_
   exact Stk.ln 0 (by decide) (hJ1 _ _ _ (f14.trans (congrArg (fun q => AV.sc (.bool q)) (by rw [hb1]; rfl))))
  ·rw [hb1] at f10
   refine Stk.run 4 (fun t H n => t 14 = .sc (.bool false)) (fun J hJ => ?_) ?_
   ·simp [-splice, f0, f2, f10]
    exact hJ _ _ _ (by simp [-splice, f0, f2, f10])
   clear f0 f2 f10
   rintro t H n f14
   refine Stk.on ?_
   exact Stk.ln 0 (by decide) (hJ1 _ _ _ (f14.trans (congrArg (fun q => AV.sc (.bool q)) (by rw [hb1]; rfl))))
 clear f0 f2 f10
 rintro t H n f14
 refine Stk.run 1 (fun t H n => t 6 = .sc (.bool ((decide (a1 ≤ a0)) && (decide (a0 ≤ a2))))) (fun J hJ => ?_) ?_
 ·simp [-splice, f14]
  exact hJ _ _ _ (by simp [-splice, f14])
 clear f14
 rintro t H n f6
 refine Stk.on ?_
 refine Stk.rt ?_
 have hq := Option.some.inj h; subst hq
 exact (hr _ _ _ (.sc (.bool ((decide (a1 ≤ a0)) && (decide (a0 ≤ a2))))) ([]) (by simp [f6]) (.inr (.inr (.free (rfl))))).1
theorem ok_slices_IndexFunc_api_Inst_api_Inst (F : Nat) (a0 : (List api_Inst)) (φ1 : api_Inst → Option Bool) (g1 : FuncId) (first1 caps1 : List AV) (fr1 : freeL first1 = true ∧ freeL caps1 = true) (hφ1 : ∀ y0 r, φ1 y0 = some r → RunF Try.prog T.T g1 (first1 ++ [.agg (c44 y0)] ++ caps1) (.sc (.bool r))) (r : Int) (h : slices_IndexFunc_api_Inst_api_Inst F a0 φ1 = some r) : RunF Try.prog T.T 55 [.ssl (encs c44 a0) a0.length false, .fn (.func g1) first1 caps1] (.sc (.int .i64 r)) := by
 rw [slices_IndexFunc_api_Inst_api_Inst] at h
 refine RunF.z Try.func55 rfl rfl rfl rfl rfl (fun C hr => ?_)
 refine Stk.gen (fun t H n => t 0 = .ssl (encs c44 a0) a0.length false ∧ t 1 = .fn (.func g1) first1 caps1) ⟨by simp, by simp⟩ ?_
 rintro t H n ⟨f0, f1⟩
 refine Stk.sq ?_
 refine Stk.rg ?_
 refine Stk.run 1 (fun t H n => t 0 = .ssl (encs c44 a0) a0.length false ∧ t 1 = .fn (.func g1) first1 caps1) (fun J hJ => ?_) ?_
 ·simp [-splice, f0, f1]
  exact hJ _ _ _ ⟨by simp [f0], by simp [f1]⟩
 clear f0 f1
 rintro t H n ⟨f0, f1⟩
 refine Stk.on ?_
 refine Stk.sq ?_
 refine Stk.sq ?_
 refine Stk.rg ?_
 refine Stk.run 3 (fun t H n => t 0 = .ssl (encs c44 a0) a0.length false ∧ t 1 = .fn (.func g1) first1 caps1 ∧ t 7 = .sc (.int .i64 (a0.length : Int)) ∧ t 8 = .sc (.int .i64 0)) (fun J hJ => ?_) ?_
 ·simp [-splice, f0, f1]
  exact hJ _ _ _ ⟨by simp [f0], by simp [f1], by simp [-splice, f0, f1], by simp [-splice, f0, f1]⟩
 clear f0 f1
 rintro t H n ⟨f0, f1, f7, f8⟩
 refine Stk.on ?_
 refine Stk.bk ?_
 refine Stk.lo (fun μ t H n => ∃ v1 : Int, slices_IndexFunc_api_Inst_api_Inst_L0 F a0 φ1 μ v1 = some r ∧ t 0 = .ssl (encs c44 a0) a0.length false ∧ t 1 = .fn (.func g1) first1 caps1 ∧ t 7 = .sc (.int .i64 (a0.length : Int)) ∧ t 8 = .sc (.int .i64 v1)) F ⟨0, h, f0, f1, f7, f8⟩ ?_
 clear h f0 f1 f7 f8
 rintro J1 hJ1 μ t H n ⟨v1, h, f0, f1, f7, f8⟩
 cases μ with
 | zero => exact absurd h (by simp [slices_IndexFunc_api_Inst_api_Inst_L0])
 | succ μ =>
 rw [slices_IndexFunc_api_Inst_api_Inst_L0] at h
 refine Stk.sq ?_
 refine Stk.rg ?_
 refine Stk.run 1 (fun t H n => t 0 = .ssl (encs c44 a0) a0.length false ∧ t 1 = .fn (.func g1) first1 caps1 ∧ t 7 = .sc (.int .i64 (a0.length : Int)) ∧ t 8 = .sc (.int .i64 v1) ∧ t 9 = .sc (.bool (decide (v1 < (a0.length : Int))))) (fun J hJ => ?_) ?_
 ·simp [-splice, f0, f1, f7, f8]
  exact hJ _ _ _ ⟨by simp [f0], by simp [f1], by simp [f7], by simp [f8], by simp [-splice, f0, f1, f7, f8]⟩
 clear f0 f1 f7 f8
 rintro t H n ⟨f0, f1, f7, f8, f9⟩
 refine Stk.on ?_
 refine Stk.sq ?_
 refine Stk.cond (decide (v1 < (a0.length : Int))) (by exact f9) (fun hb3 => ?_) (fun hb3 => ?_)
 ·have h := cT hb3 h
  refine Stk.sk ?_
  refine Stk.sq ?_
  refine Stk.bk ?_
  refine Stk.sq ?_
  refine Stk.rg ?_
  refine Stk.run 2 (fun t H n => t 0 = .ssl (encs c44 a0) a0.length false ∧ t 1 = .fn (.func g1) first1 caps1 ∧ t 5 = .sc (.int .i64 v1) ∧ t 7 = .sc (.int .i64 (a0.length : Int)) ∧ t 8 = .sc (.int .i64 v1)) (fun J hJ => ?_) ?_
  ·simp [-splice, f0, f1, f7, f8, f9]
   exact hJ _ _ _ ⟨by simp [f0], by simp [f1], by simp [-splice, f0, f1, f7, f8, f9], by simp [f7], by simp [f8]⟩
  clear f0 f1 f7 f8 f9
  rintro t H n ⟨f0, f1, f5, f7, f8⟩
  refine Stk.on ?_
  refine Stk.sq ?_
  refine Stk.rg ?_
  obtain ⟨x4, hx4, h⟩ := bnd h
  obtain ⟨i0x4, i1x4, i2x4, _⟩ := idx_ok hx4
  have ex4_0_44 : partOf T.T 44 (encs c44 a0) (v1.toNat * 4) = some (.agg (c44 x4)) := by
    have e0 := part_elem0 (e := c44) (z := 4) (T := T.T) (ty := 44) T.t44 (by decide) (by decide) hx4 0 (by decide)
    (try simp only [Nat.mul_one, Nat.add_zero] at e0)
    exact e0.trans (ld_44_0_44 _)
  refine Stk.run 5 (fun t H n => t 0 = .ssl (encs c44 a0) a0.length false ∧ t 1 = .fn (.func g1) first1 caps1 ∧ t 5 = .sc (.int .i64 v1) ∧ t 7 = .sc (.int .i64 (a0.length : Int)) ∧ t 8 = .sc (.int .i64 v1) ∧ t 11 = .fn (.func g1) first1 caps1 ∧ t 15 = .agg (c44 x4)) (fun J hJ => ?_) ?_
  ·simp [-splice, f0, f1, f5, f7, f8, i0x4, i1x4, pd44, ex4_0_44]
   exact hJ _ _ _ ⟨by simp [f0], by simp [f1], by simp [f5], by simp [f7], by simp [f8], by simp [-splice, f0, f1, f5, f7, f8, i0x4, i1x4, pd44, ex4_0_44], by simp [-splice, f0, f1, f5, f7, f8, i0x4, i1x4, pd44, ex4_0_44]⟩
  clear f0 f1 f5 f7 f8
  rintro t H n ⟨f0, f1, f5, f7, f8, f11, f15⟩
  obtain ⟨x5, hx5, h⟩ := bnd h
  refine Stk.cv (g := g1) (args := first1 ++ [.agg (c44 x4)] ++ caps1) (args' := first1 ++ [.agg (c44 x4)] ++ caps1) (v := .sc (.bool x5)) [] (hφ1 _ _ hx5) (by simp [f0, f1, f5, f7, f8, f11, f15]) rfl f11 (by simp [f0, f1, f5, f7, f8, f11, f15]) (viewL_mid (x := [.agg (c44 x4)]) (y := [.agg (c44 x4)]) fr1.1 fr1.2 (.cons (.free (fr44 _)) (.nil))) (.inl ⟨rfl, rfl⟩) (fun t' ht' => ?_)
  refine Stk.gen (fun t H n => t 0 = .ssl (encs c44 a0) a0.length false ∧ t 1 = .fn (.func g1) first1 caps1 ∧ t 5 = .sc (.int .i64 v1) ∧ t 7 = .sc (.int .i64 (a0.length : Int)) ∧ t 8 = .sc (.int .i64 v1) ∧ t 16 = .sc (.bool x5)) ⟨by simp [ht', f0], by simp [ht', f1], by simp [ht', f5], by simp [ht', f7], by simp [ht', f8], by simp [ht']⟩ ?_
  clear f0 f1 f5 f7 f8 f11 f15 ht' t'
  rintro t H n ⟨f0, f1, f5, f7, f8, f16⟩
  refine Stk.on ?_
  refine Stk.cond x5 (by exact f16) (fun hb6 => ?_) (fun hb6 => ?_)
  ·have h := cT hb6 h
   refine Stk.sq ?_
   refine Stk.rg ?_
   refine Stk.run 2 (fun t H n => t 4 = .sc (.int .i64 v1)) (fun J hJ => ?_) ?_
   ·simp [-splice, f0, f1, f5, f7, f8, f16]
    exact hJ _ _ _ (by simp [-splice, f0, f1, f5, f7, f8, f16])
   clear f0 f1 f5 f7 f8 f16
   rintro t H n f4
   refine Stk.on ?_
   refine Stk.rt ?_
   have hq := Option.some.inj h; subst hq
   exact (hr _ _ _ (.sc (.int .i64 v1)) ([]) (by simp [f4]) (.inr (.inr (.free (rfl))))).1
  ·have h := cF hb6 h
   refine Stk.sk ?_
   refine Stk.bn ?_
   refine Stk.rg ?_
   refine Stk.run 2 (fun t H n => t 0 = .ssl (encs c44 a0) a0.length false ∧ t 1 = .fn (.func g1) first1 caps1 ∧ t 7 = .sc (.int .i64 (a0.length : Int)) ∧ t 8 = .sc (.int .i64 (IntKind.i64.wrap (v1 + 1)))) (fun J hJ => ?_) ?_
   ·simp [-splice, f0, f1, f5, f7, f8, f16]
    exact hJ _ _ _ ⟨by simp [f0], by simp [f1], by simp [f7], by simp [-splice, f0, f1, f5, f7, f8, f16]⟩
   clear f0 f1 f5 f7 f8 f16
   rintro t H n ⟨f0, f1, f7, f8⟩
   refine Stk.on ?_
   exact Stk.ln μ (Nat.lt_succ_self _) (hJ1 _ _ _ _ ⟨(IntKind.i64.wrap (v1 + 1)), h, f0, f1, f7, f8⟩)
 ·have h := cF hb3 h
  refine Stk.ex rfl ?_
  refine Stk.sq ?_
  refine Stk.rg ?_
  refine Stk.run 1 (fun t H n => t 4 = .sc (.int .i64 (-1))) (fun J hJ => ?_) ?_
  ·simp [-splice, f0, f1, f7, f8, f9]
   exact hJ _ _ _ (by simp [-splice, f0, f1, f7, f8, f9])
  clear f0 f1 f7 f8 f9
  rintro t H n f4
  refine Stk.on ?_
  refine Stk.rt ?_
  have hq := Option.some.inj h; subst hq
  exact (hr _ _ _ (.sc (.int .i64 (-1))) ([]) (by simp [f4]) (.inr (.inr (.free (rfl))))).1
theorem ok_slices_ContainsFunc_api_Inst_api_Inst (F : Nat) (a0 : (List api_Inst)) (φ1 : api_Inst → Option Bool) (g1 : FuncId) (first1 caps1 : List AV) (fr1 : freeL first1 = true ∧ freeL caps1 = true) (hφ1 : ∀ y0 r, φ1 y0 = some r → RunF Try.prog T.T g1 (first1 ++ [.agg (c44 y0)] ++ caps1) (.sc (.bool r))) (r : Bool) (h : slices_ContainsFunc_api_Inst_api_Inst F a0 φ1 = some r) : RunF Try.prog T.T 40 [.ssl (encs c44 a0) a0.length false, .fn (.func g1) first1 caps1] (.sc (.bool r)) := by
 rw [slices_ContainsFunc_api_Inst_api_Inst] at h
 refine RunF.z Try.func40 rfl rfl rfl rfl rfl (fun C hr => ?_)
 refine Stk.gen (fun t H n => t 0 = .ssl (encs c44 a0) a0.length false ∧ t 1 = .fn (.func g1) first1 caps1) ⟨by simp, by simp⟩ ?_
 rintro t H n ⟨f0, f1⟩
 refine Stk.sq ?_
 refine Stk.rg ?_
 refine Stk.run 1 (fun t H n => t 0 = .ssl (encs c44 a0) a0.length false ∧ t 1 = .fn (.func g1) first1 caps1) (fun J hJ => ?_) ?_
 ·simp [-splice, f0, f1]
  exact hJ _ _ _ ⟨by simp [f0], by simp [f1]⟩
 clear f0 f1
 rintro t H n ⟨f0, f1⟩
 refine Stk.on ?_
 refine Stk.sq ?_
 refine Stk.rg ?_
 refine Stk.run 2 (fun t H n => t 5 = .ssl (encs c44 a0) a0.length false ∧ t 6 = .fn (.func g1) first1 caps1) (fun J hJ => ?_) ?_
 ·simp [-splice, f0, f1]
  exact hJ _ _ _ ⟨by simp [-splice, f0, f1], by simp [-splice, f0, f1]⟩
 clear f0 f1
 rintro t H n ⟨f5, f6⟩
 obtain ⟨x1, hx1, h⟩ := bnd h
 refine Stk.cv (g := 55) (args := [.ssl (encs c44 a0) a0.length false, .fn (.func g1) first1 caps1]) (args' := [.ssl (encs c44 a0) a0.length false, .fn (.func g1) first1 caps1]) (v := .sc (.int .i64 x1)) [] (ok_slices_IndexFunc_api_Inst_api_Inst F _ _ _ _ _ fr1 hφ1 _ hx1) (by simp [f5, f6]) rfl rfl (by simp [f5, f6]) (.cons (.free (freeL_encs fr44 _)) (.cons (.free (by simp [free, fr1])) (.nil))) (.inl ⟨rfl, rfl⟩) (fun t' ht' => ?_)
 refine Stk.gen (fun t H n => t 7 = .sc (.int .i64 x1)) (by simp [ht']) ?_
 clear f5 f6 ht' t'
 rintro t H n f7
 refine Stk.run 2 (fun t H n => t 4 = .sc (.bool (decide (0 ≤ x1)))) (fun J hJ => ?_) ?_
 ·simp [-splice, f7]
  exact hJ _ _ _ (by simp [-splice, f7])
 clear f7
 rintro t H n f4
 refine Stk.on ?_
 refine Stk.rt ?_
 have hq := Option.some.inj h; subst hq
 exact (hr _ _ _ (.sc (.bool (decide (0 ≤ x1)))) ([]) (by simp [f4]) (.inr (.inr (.free (rfl))))).1
end Go.Proofs.Ytcdafogfmijcpaa.M
