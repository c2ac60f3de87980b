/-
  The functions come to them.
-/
import Derived.Test.YtappiofmkoelnaaTtM
import Derived.Test.YtappiofmkoelnaaTtW0
import Derived.Test.YtappiofmkoelnaaTtW1
import Derived.Test.YtappiofmkoelnaaTtW2
import Derived.Test.YtappiofmkoelnaaTtW4
import Derived.Test.YtappiofmkoelnaaTtW5
import Derived.Test.YtappiofmkoelnaaTtW6
import Derived.Test.YtappiofmkoelnaaTtW7
namespace Go.Proofs.Ytappiofmkoelnaa.M
open Go.Proofs.YtappiofmkoelnaaW.Ah Go.Proofs.Ytappiofmkoelnaa
set_option linter.unusedVariables false
set_option linter.unusedSimpArgs false
set_option maxRecDepth 8000
attribute [local simp] T.t3 T.t4 T.t9 T.t22 T.t40 T.t51 List.range List.range.loop
attribute [-simp] appendAV fillAV
theorem ok_L07_TyTells (F : Nat) (a0 : api_Prog) (a1 : (List api_Data)) (a2 : api_Type) (a3 : api_Type) (a4 : ByteArray) (r : Bool) (h : L07_TyTells F a0 a1 a2 a3 a4 = some r) : RunF Try.prog T.T 5 [.agg (c51 a0), .ssl (encs c32 a1) a1.length false, .agg (c40 a2), .agg (c40 a3), .sc (.string a4)] (.sc (.bool r)) := by
  rw [L07_TyTells] at h
  refine RunF.z Try.func5 rfl rfl rfl rfl rfl (fun C hr => ?_)
  refine Stk.gen (fun t H n => t 0 = .agg (c51 a0) ∧ t 1 = .ssl (encs c32 a1) a1.length false ∧ t 2 = .agg (c40 a2) ∧ t 3 = .agg (c40 a3) ∧ t 4 = .sc (.string a4)) ⟨by simp, by simp, by simp, by simp, by simp⟩ ?_
  rintro t H n ⟨f0, f1, f2, f3, f4⟩
  refine Stk.sq ?_
  refine Stk.rg ?_
  refine Stk.om (mop_box T.t51 (cs := c51 a0) (by show partOk (t 0) = true; rw [f0]; rfl) (by show cellsOf (t 0) = _; rw [f0]; rfl)) (by simp [f0, f1, f2, f3, f4]) rfl (fun t' ht' => ?_)
  refine Stk.gen (fun t H n => ∃ b1, t 1 = .ssl (encs c32 a1) a1.length false ∧ t 2 = .agg (c40 a2) ∧ t 3 = .agg (c40 a3) ∧ t 4 = .sc (.string a4) ∧ t 5 = .own b1 0 ∧ H b1 = some (.cells (c51 a0) 51) ∧ b1 < n) ⟨n, by simp [ht', f1], by simp [ht', f2], by simp [ht', f3], by simp [ht', f4], by simp [ht'], upd_same _ _ _, Nat.lt_succ_self _⟩ ?_
  clear f0 f1 f2 f3 f4 ht' t'
  rintro t H n ⟨b1, f1, f2, f3, f4, f5, b_b1, l_b1⟩
  refine Stk.om (mop_box T.t40 (cs := c40 a2) (by show partOk (t 2) = true; rw [f2]; rfl) (by show cellsOf (t 2) = _; rw [f2]; rfl)) (by simp [f1, f2, f3, f4, f5]) rfl (fun t' ht' => ?_)
  refine Stk.gen (fun t H n => ∃ b2, t 1 = .ssl (encs c32 a1) a1.length false ∧ t 3 = .agg (c40 a3) ∧ t 4 = .sc (.string a4) ∧ t 5 = .own b1 0 ∧ t 7 = .own b2 0 ∧ H b1 = some (.cells (c51 a0) 51) ∧ b1 < n ∧ H b2 = some (.cells (c40 a2) 40) ∧ b2 < n ∧ b1 ≠ b2) ⟨n, by simp [ht', f1], by simp [ht', f3], by simp [ht', f4], by simp [ht', f5], by simp [ht'], (upd_ne _ _ (Nat.ne_of_lt l_b1)).trans b_b1, Nat.lt_succ_of_lt l_b1, upd_same _ _ _, Nat.lt_succ_self _, Nat.ne_of_lt l_b1⟩ ?_
  clear f1 f2 f3 f4 f5 b_b1 l_b1 ht' t'
  rintro t H n ⟨b2, f1, f3, f4, f5, f7, b_b1, l_b1, b_b2, l_b2, d_b1_b2⟩
  refine Stk.om (mop_box T.t40 (cs := c40 a3) (by show partOk (t 3) = true; rw [f3]; rfl) (by show cellsOf (t 3) = _; rw [f3]; rfl)) (by simp [f1, f3, f4, f5, f7]) rfl (fun t' ht' => ?_)
  refine Stk.gen (fun t H n => ∃ b3, t 1 = .ssl (encs c32 a1) a1.length false ∧ t 4 = .sc (.string a4) ∧ t 5 = .own b1 0 ∧ t 7 = .own b2 0 ∧ t 8 = .own b3 0 ∧ H b1 = some (.cells (c51 a0) 51) ∧ b1 < n ∧ H b2 = some (.cells (c40 a2) 40) ∧ b2 < n ∧ H b3 = some (.cells (c40 a3) 40) ∧ b3 < n ∧ b1 ≠ b2 ∧ b1 ≠ b3 ∧ b2 ≠ b3) ⟨n, by simp [ht', f1], by simp [ht', f4], by simp [ht', f5], by simp [ht', f7], by simp [ht'], (upd_ne _ _ (Nat.ne_of_lt l_b1)).trans b_b1, Nat.lt_succ_of_lt l_b1, (upd_ne _ _ (Nat.ne_of_lt l_b2)).trans b_b2, Nat.lt_succ_of_lt l_b2, upd_same _ _ _, Nat.lt_succ_self _, d_b1_b2, Nat.ne_of_lt l_b1, Nat.ne_of_lt l_b2⟩ ?_
  clear f1 f3 f4 f5 f7 b_b1 l_b1 b_b2 l_b2 d_b1_b2 ht' t'
  rintro t H n ⟨b3, f1, f4, f5, f7, f8, b_b1, l_b1, b_b2, l_b2, b_b3, l_b3, d_b1_b2, d_b1_b3, d_b2_b3⟩
  refine Stk.run 1 (fun t H n => t 1 = .ssl (encs c32 a1) a1.length false ∧ t 4 = .sc (.string a4) ∧ t 5 = .own b1 0 ∧ t 7 = .own b2 0 ∧ t 8 = .own b3 0 ∧ H b1 = some (.cells (c51 a0) 51) ∧ b1 < n ∧ H b2 = some (.cells (c40 a2) 40) ∧ b2 < n ∧ H b3 = some (.cells (c40 a3) 40) ∧ b3 < n ∧ b1 ≠ b2 ∧ b1 ≠ b3 ∧ b2 ≠ b3) (fun J hJ => ?_) ?_
  · simp [-splice, f1, f4, f5, f7, f8, b_b1, b_b2, b_b3]
    exact hJ _ _ _ ⟨by simp [f1], by simp [f4], by simp [f5], by simp [f7], by simp [f8], b_b1, l_b1, b_b2, l_b2, b_b3, l_b3, d_b1_b2, d_b1_b3, d_b2_b3⟩
  clear f1 f4 f5 f7 f8 b_b1 l_b1 b_b2 l_b2 b_b3 l_b3 d_b1_b2 d_b1_b3 d_b2_b3
  rintro t H n ⟨f1, f4, f5, f7, f8, b_b1, l_b1, b_b2, l_b2, b_b3, l_b3, d_b1_b2, d_b1_b3, d_b2_b3⟩
  refine Stk.on ?_
  refine Stk.sq ?_
  refine Stk.sq ?_
  refine Stk.rg ?_
  refine Stk.run 1 (fun t H n => t 1 = .ssl (encs c32 a1) a1.length false ∧ t 4 = .sc (.string a4) ∧ t 5 = .own b1 0 ∧ t 7 = .own b2 0 ∧ t 8 = .own b3 0 ∧ t 17 = .agg (c51 a0) ∧ H b1 = some (.cells (c51 a0) 51) ∧ b1 < n ∧ H b2 = some (.cells (c40 a2) 40) ∧ b2 < n ∧ H b3 = some (.cells (c40 a3) 40) ∧ b3 < n ∧ b1 ≠ b2 ∧ b1 ≠ b3 ∧ b2 ≠ b3) (fun J hJ => ?_) ?_
  · simp [-splice, f1, f4, f5, f7, f8, b_b1, b_b2, b_b3, ld_51_0_51]
    exact hJ _ _ _ ⟨by simp [f1], by simp [f4], by simp [f5], by simp [f7], by simp [f8], by simp [-splice, f1, f4, f5, f7, f8, b_b1, b_b2, b_b3, ld_51_0_51], b_b1, l_b1, b_b2, l_b2, b_b3, l_b3, d_b1_b2, d_b1_b3, d_b2_b3⟩
  clear f1 f4 f5 f7 f8 b_b1 l_b1 b_b2 l_b2 b_b3 l_b3 d_b1_b2 d_b1_b3 d_b2_b3
  rintro t H n ⟨f1, f4, f5, f7, f8, f17, b_b1, l_b1, b_b2, l_b2, b_b3, l_b3, d_b1_b2, d_b1_b3, d_b2_b3⟩
  obtain ⟨x4, hx4, h⟩ := bnd h
  refine Stk.cv (g := 13) (args := [.agg (c51 a0), .sc (.int .i64 2000)]) (args' := [.agg (c51 a0), .sc (.int .i64 2000)]) (v := .sc (.int .i64 x4)) [] (ok_R04_LightProg F _ _ _ hx4) (by simp [f1, f4, f5, f7, f8, f17]) rfl rfl (by simp [f1, f4, f5, f7, f8, f17]) (.cons (.free (fr51 _)) (.cons (.free (rfl)) (.nil))) (.inl ⟨rfl, rfl⟩) (fun t' ht' => ?_)
  refine Stk.gen (fun t H n => t 1 = .ssl (encs c32 a1) a1.length false ∧ t 4 = .sc (.string a4) ∧ t 5 = .own b1 0 ∧ t 7 = .own b2 0 ∧ t 8 = .own b3 0 ∧ t 18 = .sc (.int .i64 x4) ∧ H b1 = some (.cells (c51 a0) 51) ∧ b1 < n ∧ H b2 = some (.cells (c40 a2) 40) ∧ b2 < n ∧ H b3 = some (.cells (c40 a3) 40) ∧ b3 < n ∧ b1 ≠ b2 ∧ b1 ≠ b3 ∧ b2 ≠ b3) ⟨by simp [ht', f1], by simp [ht', f4], by simp [ht', f5], by simp [ht', f7], by simp [ht', f8], by simp [ht'], b_b1, l_b1, b_b2, l_b2, b_b3, l_b3, d_b1_b2, d_b1_b3, d_b2_b3⟩ ?_
  clear f1 f4 f5 f7 f8 f17 b_b1 l_b1 b_b2 l_b2 b_b3 l_b3 d_b1_b2 d_b1_b3 d_b2_b3 ht' t'
  rintro t H n ⟨f1, f4, f5, f7, f8, f18, b_b1, l_b1, b_b2, l_b2, b_b3, l_b3, d_b1_b2, d_b1_b3, d_b2_b3⟩
  refine Stk.run 2 (fun t H n => t 1 = .ssl (encs c32 a1) a1.length false ∧ t 4 = .sc (.string a4) ∧ t 5 = .own b1 0 ∧ t 7 = .own b2 0 ∧ t 8 = .own b3 0 ∧ t 20 = .sc (.bool (decide (x4 < 0))) ∧ H b1 = some (.cells (c51 a0) 51) ∧ b1 < n ∧ H b2 = some (.cells (c40 a2) 40) ∧ b2 < n ∧ H b3 = some (.cells (c40 a3) 40) ∧ b3 < n ∧ b1 ≠ b2 ∧ b1 ≠ b3 ∧ b2 ≠ b3) (fun J hJ => ?_) ?_
  · simp [-splice, f1, f4, f5, f7, f8, f18, b_b1, b_b2, b_b3]
    exact hJ _ _ _ ⟨by simp [f1], by simp [f4], by simp [f5], by simp [f7], by simp [f8], by simp [-splice, f1, f4, f5, f7, f8, f18, b_b1, b_b2, b_b3], b_b1, l_b1, b_b2, l_b2, b_b3, l_b3, d_b1_b2, d_b1_b3, d_b2_b3⟩
  clear f1 f4 f5 f7 f8 f18 b_b1 l_b1 b_b2 l_b2 b_b3 l_b3 d_b1_b2 d_b1_b3 d_b2_b3
  rintro t H n ⟨f1, f4, f5, f7, f8, f20, b_b1, l_b1, b_b2, l_b2, b_b3, l_b3, d_b1_b2, d_b1_b3, d_b2_b3⟩
  obtain ⟨K1, hK1, h⟩ := jnd h
  refine Stk.jo 4 (fun t H n => ∃ v5 : Bool, K1 v5 = some r ∧ t 1 = .ssl (encs c32 a1) a1.length false ∧ t 4 = .sc (.string a4) ∧ t 5 = .own b1 0 ∧ t 7 = .own b2 0 ∧ t 8 = .own b3 0 ∧ t 24 = .sc (.bool v5) ∧ H b1 = some (.cells (c51 a0) 51) ∧ b1 < n ∧ H b2 = some (.cells (c40 a2) 40) ∧ b2 < n ∧ H b3 = some (.cells (c40 a3) 40) ∧ b3 < n ∧ b1 ≠ b2 ∧ b1 ≠ b3 ∧ b2 ≠ b3) (fun J1 hJ1 => ?_) ?_
  · rcases Bool.eq_false_or_eq_true (decide (x4 < 0)) with hb1 | hb1
    · rw [hb1] at f20
      replace h := cT hb1 h
      refine Stk.run 4 (fun t H n => t 1 = .ssl (encs c32 a1) a1.length false ∧ t 4 = .sc (.string a4) ∧ t 5 = .own b1 0 ∧ t 7 = .own b2 0 ∧ t 8 = .own b3 0 ∧ t 24 = .sc (.bool true) ∧ H b1 = some (.cells (c51 a0) 51) ∧ b1 < n ∧ H b2 = some (.cells (c40 a2) 40) ∧ b2 < n ∧ H b3 = some (.cells (c40 a3) 40) ∧ b3 < n ∧ b1 ≠ b2 ∧ b1 ≠ b3 ∧ b2 ≠ b3) (fun J hJ => ?_) ?_
      · simp [-splice, f1, f4, f5, f7, f8, f20, b_b1, b_b2, b_b3]
        exact hJ _ _ _ ⟨by simp [f1], by simp [f4], by simp [f5], by simp [f7], by simp [f8], by simp [-splice, f1, f4, f5, f7, f8, f20, b_b1, b_b2, b_b3], b_b1, l_b1, b_b2, l_b2, b_b3, l_b3, d_b1_b2, d_b1_b3, d_b2_b3⟩
      clear f1 f4 f5 f7 f8 f20 b_b1 l_b1 b_b2 l_b2 b_b3 l_b3 d_b1_b2 d_b1_b3 d_b2_b3
      rintro t H n ⟨f1, f4, f5, f7, f8, f24, b_b1, l_b1, b_b2, l_b2, b_b3, l_b3, d_b1_b2, d_b1_b3, d_b2_b3⟩
      refine Stk.on ?_
      exact Stk.ln 0 (by decide) (hJ1 _ _ _ ⟨true, h, f1, f4, f5, f7, f8, f24, b_b1, l_b1, b_b2, l_b2, b_b3, l_b3, d_b1_b2, d_b1_b3, d_b2_b3⟩)
    · rw [hb1] at f20
      replace h := cF hb1 h
      refine Stk.run 1 (fun t H n => t 1 = .ssl (encs c32 a1) a1.length false ∧ t 4 = .sc (.string a4) ∧ t 5 = .own b1 0 ∧ t 7 = .own b2 0 ∧ t 8 = .own b3 0 ∧ t 20 = .sc (.bool false) ∧ t 21 = .ssl (encs c32 a1) a1.length false ∧ H b1 = some (.cells (c51 a0) 51) ∧ b1 < n ∧ H b2 = some (.cells (c40 a2) 40) ∧ b2 < n ∧ H b3 = some (.cells (c40 a3) 40) ∧ b3 < n ∧ b1 ≠ b2 ∧ b1 ≠ b3 ∧ b2 ≠ b3) (fun J hJ => ?_) ?_
      · simp [-splice, f1, f4, f5, f7, f8, f20, b_b1, b_b2, b_b3]
        exact hJ _ _ _ ⟨by simp [f1], by simp [f4], by simp [f5], by simp [f7], by simp [f8], by simp [f20], by simp [-splice, f1, f4, f5, f7, f8, f20, b_b1, b_b2, b_b3], b_b1, l_b1, b_b2, l_b2, b_b3, l_b3, d_b1_b2, d_b1_b3, d_b2_b3⟩
      clear f1 f4 f5 f7 f8 f20 b_b1 l_b1 b_b2 l_b2 b_b3 l_b3 d_b1_b2 d_b1_b3 d_b2_b3
      rintro t H n ⟨f1, f4, f5, f7, f8, f20, f21, b_b1, l_b1, b_b2, l_b2, b_b3, l_b3, d_b1_b2, d_b1_b3, d_b2_b3⟩
      obtain ⟨x6, hx6, h⟩ := bnd h
      refine Stk.cv (g := 6) (args := [.ssl (encs c32 a1) a1.length false]) (args' := [.ssl (encs c32 a1) a1.length false]) (v := .sc (.bool x6)) [] (ok_L07_light F _ _ hx6) (by simp [f1, f4, f5, f7, f8, f20, f21]) rfl rfl (by simp [f1, f4, f5, f7, f8, f20, f21]) (.cons (.free (freeL_encs fr32 _)) (.nil)) (.inl ⟨rfl, rfl⟩) (fun t' ht' => ?_)
      refine Stk.gen (fun t H n => t 1 = .ssl (encs c32 a1) a1.length false ∧ t 4 = .sc (.string a4) ∧ t 5 = .own b1 0 ∧ t 7 = .own b2 0 ∧ t 8 = .own b3 0 ∧ t 20 = .sc (.bool false) ∧ t 22 = .sc (.bool x6) ∧ H b1 = some (.cells (c51 a0) 51) ∧ b1 < n ∧ H b2 = some (.cells (c40 a2) 40) ∧ b2 < n ∧ H b3 = some (.cells (c40 a3) 40) ∧ b3 < n ∧ b1 ≠ b2 ∧ b1 ≠ b3 ∧ b2 ≠ b3) ⟨by simp [ht', f1], by simp [ht', f4], by simp [ht', f5], by simp [ht', f7], by simp [ht', f8], by simp [ht', f20], by simp [ht'], b_b1, l_b1, b_b2, l_b2, b_b3, l_b3, d_b1_b2, d_b1_b3, d_b2_b3⟩ ?_
      clear f1 f4 f5 f7 f8 f20 f21 b_b1 l_b1 b_b2 l_b2 b_b3 l_b3 d_b1_b2 d_b1_b3 d_b2_b3 ht' t'
      rintro t H n ⟨f1, f4, f5, f7, f8, f20, f22, b_b1, l_b1, b_b2, l_b2, b_b3, l_b3, d_b1_b2, d_b1_b3, d_b2_b3⟩
      refine Stk.run 2 (fun t H n => t 1 = .ssl (encs c32 a1) a1.length false ∧ t 4 = .sc (.string a4) ∧ t 5 = .own b1 0 ∧ t 7 = .own b2 0 ∧ t 8 = .own b3 0 ∧ t 24 = .sc (.bool (!x6)) ∧ H b1 = some (.cells (c51 a0) 51) ∧ b1 < n ∧ H b2 = some (.cells (c40 a2) 40) ∧ b2 < n ∧ H b3 = some (.cells (c40 a3) 40) ∧ b3 < n ∧ b1 ≠ b2 ∧ b1 ≠ b3 ∧ b2 ≠ b3) (fun J hJ => ?_) ?_
      · simp [-splice, f1, f4, f5, f7, f8, f20, f22, b_b1, b_b2, b_b3]
        exact hJ _ _ _ ⟨by simp [f1], by simp [f4], by simp [f5], by simp [f7], by simp [f8], by simp [-splice, f1, f4, f5, f7, f8, f20, f22, b_b1, b_b2, b_b3], b_b1, l_b1, b_b2, l_b2, b_b3, l_b3, d_b1_b2, d_b1_b3, d_b2_b3⟩
      clear f1 f4 f5 f7 f8 f20 f22 b_b1 l_b1 b_b2 l_b2 b_b3 l_b3 d_b1_b2 d_b1_b3 d_b2_b3
      rintro t H n ⟨f1, f4, f5, f7, f8, f24, b_b1, l_b1, b_b2, l_b2, b_b3, l_b3, d_b1_b2, d_b1_b3, d_b2_b3⟩
      refine Stk.on ?_
      exact Stk.ln 0 (by decide) (hJ1 _ _ _ ⟨(!x6), h, f1, f4, f5, f7, f8, f24, b_b1, l_b1, b_b2, l_b2, b_b3, l_b3, d_b1_b2, d_b1_b3, d_b2_b3⟩)
  clear h f1 f4 f5 f7 f8 f20 b_b1 l_b1 b_b2 l_b2 b_b3 l_b3 d_b1_b2 d_b1_b3 d_b2_b3
  rintro t H n ⟨v5, h, f1, f4, f5, f7, f8, f24, b_b1, l_b1, b_b2, l_b2, b_b3, l_b3, d_b1_b2, d_b1_b3, d_b2_b3⟩
  subst hK1
  refine Stk.run 1 (fun t H n => t 1 = .ssl (encs c32 a1) a1.length false ∧ t 4 = .sc (.string a4) ∧ t 5 = .own b1 0 ∧ t 7 = .own b2 0 ∧ t 8 = .own b3 0 ∧ t 25 = .sc (.bool v5) ∧ H b1 = some (.cells (c51 a0) 51) ∧ b1 < n ∧ H b2 = some (.cells (c40 a2) 40) ∧ b2 < n ∧ H b3 = some (.cells (c40 a3) 40) ∧ b3 < n ∧ b1 ≠ b2 ∧ b1 ≠ b3 ∧ b2 ≠ b3) (fun J hJ => ?_) ?_
  · simp [-splice, f1, f4, f5, f7, f8, f24, b_b1, b_b2, b_b3]
    exact hJ _ _ _ ⟨by simp [f1], by simp [f4], by simp [f5], by simp [f7], by simp [f8], by simp [-splice, f1, f4, f5, f7, f8, f24, b_b1, b_b2, b_b3], b_b1, l_b1, b_b2, l_b2, b_b3, l_b3, d_b1_b2, d_b1_b3, d_b2_b3⟩
  clear f1 f4 f5 f7 f8 f24 b_b1 l_b1 b_b2 l_b2 b_b3 l_b3 d_b1_b2 d_b1_b3 d_b2_b3
  rintro t H n ⟨f1, f4, f5, f7, f8, f25, b_b1, l_b1, b_b2, l_b2, b_b3, l_b3, d_b1_b2, d_b1_b3, d_b2_b3⟩
  obtain ⟨K2, hK2, h⟩ := jnd h
  refine Stk.jo 4 (fun t H n => ∃ v7 : Bool, K2 v7 = some r ∧ t 1 = .ssl (encs c32 a1) a1.length false ∧ t 4 = .sc (.string a4) ∧ t 5 = .own b1 0 ∧ t 7 = .own b2 0 ∧ t 8 = .own b3 0 ∧ t 29 = .sc (.bool v7) ∧ H b1 = some (.cells (c51 a0) 51) ∧ b1 < n ∧ H b2 = some (.cells (c40 a2) 40) ∧ b2 < n ∧ H b3 = some (.cells (c40 a3) 40) ∧ b3 < n ∧ b1 ≠ b2 ∧ b1 ≠ b3 ∧ b2 ≠ b3) (fun J2 hJ2 => ?_) ?_
  · rcases Bool.eq_false_or_eq_true v5 with hb2 | hb2
    · rw [hb2] at f25
      replace h := cT hb2 h
      refine Stk.run 4 (fun t H n => t 1 = .ssl (encs c32 a1) a1.length false ∧ t 4 = .sc (.string a4) ∧ t 5 = .own b1 0 ∧ t 7 = .own b2 0 ∧ t 8 = .own b3 0 ∧ t 29 = .sc (.bool true) ∧ H b1 = some (.cells (c51 a0) 51) ∧ b1 < n ∧ H b2 = some (.cells (c40 a2) 40) ∧ b2 < n ∧ H b3 = some (.cells (c40 a3) 40) ∧ b3 < n ∧ b1 ≠ b2 ∧ b1 ≠ b3 ∧ b2 ≠ b3) (fun J hJ => ?_) ?_
      · simp [-splice, f1, f4, f5, f7, f8, f25, b_b1, b_b2, b_b3]
        exact hJ _ _ _ ⟨by simp [f1], by simp [f4], by simp [f5], by simp [f7], by simp [f8], by simp [-splice, f1, f4, f5, f7, f8, f25, b_b1, b_b2, b_b3], b_b1, l_b1, b_b2, l_b2, b_b3, l_b3, d_b1_b2, d_b1_b3, d_b2_b3⟩
      clear f1 f4 f5 f7 f8 f25 b_b1 l_b1 b_b2 l_b2 b_b3 l_b3 d_b1_b2 d_b1_b3 d_b2_b3
      rintro t H n ⟨f1, f4, f5, f7, f8, f29, b_b1, l_b1, b_b2, l_b2, b_b3, l_b3, d_b1_b2, d_b1_b3, d_b2_b3⟩
      refine Stk.on ?_
      exact Stk.ln 0 (by decide) (hJ2 _ _ _ ⟨true, h, f1, f4, f5, f7, f8, f29, b_b1, l_b1, b_b2, l_b2, b_b3, l_b3, d_b1_b2, d_b1_b3, d_b2_b3⟩)
    · rw [hb2] at f25
      replace h := cF hb2 h
      refine Stk.run 1 (fun t H n => t 1 = .ssl (encs c32 a1) a1.length false ∧ t 4 = .sc (.string a4) ∧ t 5 = .own b1 0 ∧ t 7 = .own b2 0 ∧ t 8 = .own b3 0 ∧ t 25 = .sc (.bool false) ∧ t 26 = .agg (c40 a2) ∧ H b1 = some (.cells (c51 a0) 51) ∧ b1 < n ∧ H b2 = some (.cells (c40 a2) 40) ∧ b2 < n ∧ H b3 = some (.cells (c40 a3) 40) ∧ b3 < n ∧ b1 ≠ b2 ∧ b1 ≠ b3 ∧ b2 ≠ b3) (fun J hJ => ?_) ?_
      · simp [-splice, f1, f4, f5, f7, f8, f25, b_b1, b_b2, b_b3, ld_40_0_40]
        exact hJ _ _ _ ⟨by simp [f1], by simp [f4], by simp [f5], by simp [f7], by simp [f8], by simp [f25], by simp [-splice, f1, f4, f5, f7, f8, f25, b_b1, b_b2, b_b3, ld_40_0_40], b_b1, l_b1, b_b2, l_b2, b_b3, l_b3, d_b1_b2, d_b1_b3, d_b2_b3⟩
      clear f1 f4 f5 f7 f8 f25 b_b1 l_b1 b_b2 l_b2 b_b3 l_b3 d_b1_b2 d_b1_b3 d_b2_b3
      rintro t H n ⟨f1, f4, f5, f7, f8, f25, f26, b_b1, l_b1, b_b2, l_b2, b_b3, l_b3, d_b1_b2, d_b1_b3, d_b2_b3⟩
      obtain ⟨x8, hx8, h⟩ := bnd h
      refine Stk.cv (g := 14) (args := [.agg (c40 a2), .sc (.int .i64 2000)]) (args' := [.agg (c40 a2), .sc (.int .i64 2000)]) (v := .sc (.int .i64 x8)) [] (ok_R04_LightType F _ _ _ hx8) (by simp [f1, f4, f5, f7, f8, f25, f26]) rfl rfl (by simp [f1, f4, f5, f7, f8, f25, f26]) (.cons (.free (fr40 _)) (.cons (.free (rfl)) (.nil))) (.inl ⟨rfl, rfl⟩) (fun t' ht' => ?_)
      refine Stk.gen (fun t H n => t 1 = .ssl (encs c32 a1) a1.length false ∧ t 4 = .sc (.string a4) ∧ t 5 = .own b1 0 ∧ t 7 = .own b2 0 ∧ t 8 = .own b3 0 ∧ t 25 = .sc (.bool false) ∧ t 27 = .sc (.int .i64 x8) ∧ H b1 = some (.cells (c51 a0) 51) ∧ b1 < n ∧ H b2 = some (.cells (c40 a2) 40) ∧ b2 < n ∧ H b3 = some (.cells (c40 a3) 40) ∧ b3 < n ∧ b1 ≠ b2 ∧ b1 ≠ b3 ∧ b2 ≠ b3) ⟨by simp [ht', f1], by simp [ht', f4], by simp [ht', f5], by simp [ht', f7], by simp [ht', f8], by simp [ht', f25], by simp [ht'], b_b1, l_b1, b_b2, l_b2, b_b3, l_b3, d_b1_b2, d_b1_b3, d_b2_b3⟩ ?_
      clear f1 f4 f5 f7 f8 f25 f26 b_b1 l_b1 b_b2 l_b2 b_b3 l_b3 d_b1_b2 d_b1_b3 d_b2_b3 ht' t'
      rintro t H n ⟨f1, f4, f5, f7, f8, f25, f27, b_b1, l_b1, b_b2, l_b2, b_b3, l_b3, d_b1_b2, d_b1_b3, d_b2_b3⟩
      refine Stk.run 2 (fun t H n => t 1 = .ssl (encs c32 a1) a1.length false ∧ t 4 = .sc (.string a4) ∧ t 5 = .own b1 0 ∧ t 7 = .own b2 0 ∧ t 8 = .own b3 0 ∧ t 29 = .sc (.bool (decide (x8 < 0))) ∧ H b1 = some (.cells (c51 a0) 51) ∧ b1 < n ∧ H b2 = some (.cells (c40 a2) 40) ∧ b2 < n ∧ H b3 = some (.cells (c40 a3) 40) ∧ b3 < n ∧ b1 ≠ b2 ∧ b1 ≠ b3 ∧ b2 ≠ b3) (fun J hJ => ?_) ?_
      · simp [-splice, f1, f4, f5, f7, f8, f25, f27, b_b1, b_b2, b_b3]
        exact hJ _ _ _ ⟨by simp [f1], by simp [f4], by simp [f5], by simp [f7], by simp [f8], by simp [-splice, f1, f4, f5, f7, f8, f25, f27, b_b1, b_b2, b_b3], b_b1, l_b1, b_b2, l_b2, b_b3, l_b3, d_b1_b2, d_b1_b3, d_b2_b3⟩
      clear f1 f4 f5 f7 f8 f25 f27 b_b1 l_b1 b_b2 l_b2 b_b3 l_b3 d_b1_b2 d_b1_b3 d_b2_b3
      rintro t H n ⟨f1, f4, f5, f7, f8, f29, b_b1, l_b1, b_b2, l_b2, b_b3, l_b3, d_b1_b2, d_b1_b3, d_b2_b3⟩
      refine Stk.on ?_
      exact Stk.ln 0 (by decide) (hJ2 _ _ _ ⟨(decide (x8 < 0)), h, f1, f4, f5, f7, f8, f29, b_b1, l_b1, b_b2, l_b2, b_b3, l_b3, d_b1_b2, d_b1_b3, d_b2_b3⟩)
  clear h f1 f4 f5 f7 f8 f25 b_b1 l_b1 b_b2 l_b2 b_b3 l_b3 d_b1_b2 d_b1_b3 d_b2_b3
  rintro t H n ⟨v7, h, f1, f4, f5, f7, f8, f29, b_b1, l_b1, b_b2, l_b2, b_b3, l_b3, d_b1_b2, d_b1_b3, d_b2_b3⟩
  subst hK2
  refine Stk.run 1 (fun t H n => t 1 = .ssl (encs c32 a1) a1.length false ∧ t 4 = .sc (.string a4) ∧ t 5 = .own b1 0 ∧ t 7 = .own b2 0 ∧ t 8 = .own b3 0 ∧ t 30 = .sc (.bool v7) ∧ H b1 = some (.cells (c51 a0) 51) ∧ b1 < n ∧ H b2 = some (.cells (c40 a2) 40) ∧ b2 < n ∧ H b3 = some (.cells (c40 a3) 40) ∧ b3 < n ∧ b1 ≠ b2 ∧ b1 ≠ b3 ∧ b2 ≠ b3) (fun J hJ => ?_) ?_
  · simp [-splice, f1, f4, f5, f7, f8, f29, b_b1, b_b2, b_b3]
    exact hJ _ _ _ ⟨by simp [f1], by simp [f4], by simp [f5], by simp [f7], by simp [f8], by simp [-splice, f1, f4, f5, f7, f8, f29, b_b1, b_b2, b_b3], b_b1, l_b1, b_b2, l_b2, b_b3, l_b3, d_b1_b2, d_b1_b3, d_b2_b3⟩
  clear f1 f4 f5 f7 f8 f29 b_b1 l_b1 b_b2 l_b2 b_b3 l_b3 d_b1_b2 d_b1_b3 d_b2_b3
  rintro t H n ⟨f1, f4, f5, f7, f8, f30, b_b1, l_b1, b_b2, l_b2, b_b3, l_b3, d_b1_b2, d_b1_b3, d_b2_b3⟩
  obtain ⟨K3, hK3, h⟩ := jnd h
  refine Stk.jo 4 (fun t H n => ∃ v9 : Bool, K3 v9 = some r ∧ t 1 = .ssl (encs c32 a1) a1.length false ∧ t 4 = .sc (.string a4) ∧ t 5 = .own b1 0 ∧ t 7 = .own b2 0 ∧ t 8 = .own b3 0 ∧ t 34 = .sc (.bool v9) ∧ H b1 = some (.cells (c51 a0) 51) ∧ b1 < n ∧ H b2 = some (.cells (c40 a2) 40) ∧ b2 < n ∧ H b3 = some (.cells (c40 a3) 40) ∧ b3 < n ∧ b1 ≠ b2 ∧ b1 ≠ b3 ∧ b2 ≠ b3) (fun J3 hJ3 => ?_) ?_
  · rcases Bool.eq_false_or_eq_true v7 with hb3 | hb3
    · rw [hb3] at f30
      replace h := cT hb3 h
      refine Stk.run 4 (fun t H n => t 1 = .ssl (encs c32 a1) a1.length false ∧ t 4 = .sc (.string a4) ∧ t 5 = .own b1 0 ∧ t 7 = .own b2 0 ∧ t 8 = .own b3 0 ∧ t 34 = .sc (.bool true) ∧ H b1 = some (.cells (c51 a0) 51) ∧ b1 < n ∧ H b2 = some (.cells (c40 a2) 40) ∧ b2 < n ∧ H b3 = some (.cells (c40 a3) 40) ∧ b3 < n ∧ b1 ≠ b2 ∧ b1 ≠ b3 ∧ b2 ≠ b3) (fun J hJ => ?_) ?_
      · simp [-splice, f1, f4, f5, f7, f8, f30, b_b1, b_b2, b_b3]
        exact hJ _ _ _ ⟨by simp [f1], by simp [f4], by simp [f5], by simp [f7], by simp [f8], by simp [-splice, f1, f4, f5, f7, f8, f30, b_b1, b_b2, b_b3], b_b1, l_b1, b_b2, l_b2, b_b3, l_b3, d_b1_b2, d_b1_b3, d_b2_b3⟩
      clear f1 f4 f5 f7 f8 f30 b_b1 l_b1 b_b2 l_b2 b_b3 l_b3 d_b1_b2 d_b1_b3 d_b2_b3
      rintro t H n ⟨f1, f4, f5, f7, f8, f34, b_b1, l_b1, b_b2, l_b2, b_b3, l_b3, d_b1_b2, d_b1_b3, d_b2_b3⟩
      refine Stk.on ?_
      exact Stk.ln 0 (by decide) (hJ3 _ _ _ ⟨true, h, f1, f4, f5, f7, f8, f34, b_b1, l_b1, b_b2, l_b2, b_b3, l_b3, d_b1_b2, d_b1_b3, d_b2_b3⟩)
    · rw [hb3] at f30
      replace h := cF hb3 h
      refine Stk.run 1 (fun t H n => t 1 = .ssl (encs c32 a1) a1.length false ∧ t 4 = .sc (.string a4) ∧ t 5 = .own b1 0 ∧ t 7 = .own b2 0 ∧ t 8 = .own b3 0 ∧ t 30 = .sc (.bool false) ∧ t 31 = .agg (c40 a3) ∧ H b1 = some (.cells (c51 a0) 51) ∧ b1 < n ∧ H b2 = some (.cells (c40 a2) 40) ∧ b2 < n ∧ H b3 = some (.cells (c40 a3) 40) ∧ b3 < n ∧ b1 ≠ b2 ∧ b1 ≠ b3 ∧ b2 ≠ b3) (fun J hJ => ?_) ?_
      · simp [-splice, f1, f4, f5, f7, f8, f30, b_b1, b_b2, b_b3, ld_40_0_40]
        exact hJ _ _ _ ⟨by simp [f1], by simp [f4], by simp [f5], by simp [f7], by simp [f8], by simp [f30], by simp [-splice, f1, f4, f5, f7, f8, f30, b_b1, b_b2, b_b3, ld_40_0_40], b_b1, l_b1, b_b2, l_b2, b_b3, l_b3, d_b1_b2, d_b1_b3, d_b2_b3⟩
      clear f1 f4 f5 f7 f8 f30 b_b1 l_b1 b_b2 l_b2 b_b3 l_b3 d_b1_b2 d_b1_b3 d_b2_b3
      rintro t H n ⟨f1, f4, f5, f7, f8, f30, f31, b_b1, l_b1, b_b2, l_b2, b_b3, l_b3, d_b1_b2, d_b1_b3, d_b2_b3⟩
      obtain ⟨x10, hx10, h⟩ := bnd h
      refine Stk.cv (g := 14) (args := [.agg (c40 a3), .sc (.int .i64 2000)]) (args' := [.agg (c40 a3), .sc (.int .i64 2000)]) (v := .sc (.int .i64 x10)) [] (ok_R04_LightType F _ _ _ hx10) (by simp [f1, f4, f5, f7, f8, f30, f31]) rfl rfl (by simp [f1, f4, f5, f7, f8, f30, f31]) (.cons (.free (fr40 _)) (.cons (.free (rfl)) (.nil))) (.inl ⟨rfl, rfl⟩) (fun t' ht' => ?_)
      refine Stk.gen (fun t H n => t 1 = .ssl (encs c32 a1) a1.length false ∧ t 4 = .sc (.string a4) ∧ t 5 = .own b1 0 ∧ t 7 = .own b2 0 ∧ t 8 = .own b3 0 ∧ t 30 = .sc (.bool false) ∧ t 32 = .sc (.int .i64 x10) ∧ H b1 = some (.cells (c51 a0) 51) ∧ b1 < n ∧ H b2 = some (.cells (c40 a2) 40) ∧ b2 < n ∧ H b3 = some (.cells (c40 a3) 40) ∧ b3 < n ∧ b1 ≠ b2 ∧ b1 ≠ b3 ∧ b2 ≠ b3) ⟨by simp [ht', f1], by simp [ht', f4], by simp [ht', f5], by simp [ht', f7], by simp [ht', f8], by simp [ht', f30], by simp [ht'], b_b1, l_b1, b_b2, l_b2, b_b3, l_b3, d_b1_b2, d_b1_b3, d_b2_b3⟩ ?_
      clear f1 f4 f5 f7 f8 f30 f31 b_b1 l_b1 b_b2 l_b2 b_b3 l_b3 d_b1_b2 d_b1_b3 d_b2_b3 ht' t'
      rintro t H n ⟨f1, f4, f5, f7, f8, f30, f32, b_b1, l_b1, b_b2, l_b2, b_b3, l_b3, d_b1_b2, d_b1_b3, d_b2_b3⟩
      refine Stk.run 2 (fun t H n => t 1 = .ssl (encs c32 a1) a1.length false ∧ t 4 = .sc (.string a4) ∧ t 5 = .own b1 0 ∧ t 7 = .own b2 0 ∧ t 8 = .own b3 0 ∧ t 34 = .sc (.bool (decide (x10 < 0))) ∧ H b1 = some (.cells (c51 a0) 51) ∧ b1 < n ∧ H b2 = some (.cells (c40 a2) 40) ∧ b2 < n ∧ H b3 = some (.cells (c40 a3) 40) ∧ b3 < n ∧ b1 ≠ b2 ∧ b1 ≠ b3 ∧ b2 ≠ b3) (fun J hJ => ?_) ?_
      · simp [-splice, f1, f4, f5, f7, f8, f30, f32, b_b1, b_b2, b_b3]
        exact hJ _ _ _ ⟨by simp [f1], by simp [f4], by simp [f5], by simp [f7], by simp [f8], by simp [-splice, f1, f4, f5, f7, f8, f30, f32, b_b1, b_b2, b_b3], b_b1, l_b1, b_b2, l_b2, b_b3, l_b3, d_b1_b2, d_b1_b3, d_b2_b3⟩
      clear f1 f4 f5 f7 f8 f30 f32 b_b1 l_b1 b_b2 l_b2 b_b3 l_b3 d_b1_b2 d_b1_b3 d_b2_b3
      rintro t H n ⟨f1, f4, f5, f7, f8, f34, b_b1, l_b1, b_b2, l_b2, b_b3, l_b3, d_b1_b2, d_b1_b3, d_b2_b3⟩
      refine Stk.on ?_
      exact Stk.ln 0 (by decide) (hJ3 _ _ _ ⟨(decide (x10 < 0)), h, f1, f4, f5, f7, f8, f34, b_b1, l_b1, b_b2, l_b2, b_b3, l_b3, d_b1_b2, d_b1_b3, d_b2_b3⟩)
  clear h f1 f4 f5 f7 f8 f30 b_b1 l_b1 b_b2 l_b2 b_b3 l_b3 d_b1_b2 d_b1_b3 d_b2_b3
  rintro t H n ⟨v9, h, f1, f4, f5, f7, f8, f34, b_b1, l_b1, b_b2, l_b2, b_b3, l_b3, d_b1_b2, d_b1_b3, d_b2_b3⟩
  subst hK3
  refine Stk.run 1 (fun t H n => t 1 = .ssl (encs c32 a1) a1.length false ∧ t 4 = .sc (.string a4) ∧ t 5 = .own b1 0 ∧ t 7 = .own b2 0 ∧ t 8 = .own b3 0 ∧ t 35 = .sc (.bool v9) ∧ H b1 = some (.cells (c51 a0) 51) ∧ b1 < n ∧ H b2 = some (.cells (c40 a2) 40) ∧ b2 < n ∧ H b3 = some (.cells (c40 a3) 40) ∧ b3 < n ∧ b1 ≠ b2 ∧ b1 ≠ b3 ∧ b2 ≠ b3) (fun J hJ => ?_) ?_
  · simp [-splice, f1, f4, f5, f7, f8, f34, b_b1, b_b2, b_b3]
    exact hJ _ _ _ ⟨by simp [f1], by simp [f4], by simp [f5], by simp [f7], by simp [f8], by simp [-splice, f1, f4, f5, f7, f8, f34, b_b1, b_b2, b_b3], b_b1, l_b1, b_b2, l_b2, b_b3, l_b3, d_b1_b2, d_b1_b3, d_b2_b3⟩
  clear f1 f4 f5 f7 f8 f34 b_b1 l_b1 b_b2 l_b2 b_b3 l_b3 d_b1_b2 d_b1_b3 d_b2_b3
  rintro t H n ⟨f1, f4, f5, f7, f8, f35, b_b1, l_b1, b_b2, l_b2, b_b3, l_b3, d_b1_b2, d_b1_b3, d_b2_b3⟩
  refine Stk.jo 4 (fun t H n => t 1 = .ssl (encs c32 a1) a1.length false ∧ t 4 = .sc (.string a4) ∧ t 5 = .own b1 0 ∧ t 7 = .own b2 0 ∧ t 8 = .own b3 0 ∧ t 39 = .sc (.bool (v9 || (decide (300 < (a4.size : Int))))) ∧ H b1 = some (.cells (c51 a0) 51) ∧ b1 < n ∧ H b2 = some (.cells (c40 a2) 40) ∧ b2 < n ∧ H b3 = some (.cells (c40 a3) 40) ∧ b3 < n ∧ b1 ≠ b2 ∧ b1 ≠ b3 ∧ b2 ≠ b3) (fun J4 hJ4 => ?_) ?_
  · rcases Bool.eq_false_or_eq_true v9 with hb4 | hb4
    · rw [hb4] at f35
      refine Stk.run 4 (fun t H n => t 1 = .ssl (encs c32 a1) a1.length false ∧ t 4 = .sc (.string a4) ∧ t 5 = .own b1 0 ∧ t 7 = .own b2 0 ∧ t 8 = .own b3 0 ∧ t 39 = .sc (.bool true) ∧ H b1 = some (.cells (c51 a0) 51) ∧ b1 < n ∧ H b2 = some (.cells (c40 a2) 40) ∧ b2 < n ∧ H b3 = some (.cells (c40 a3) 40) ∧ b3 < n ∧ b1 ≠ b2 ∧ b1 ≠ b3 ∧ b2 ≠ b3) (fun J hJ => ?_) ?_
      · simp [-splice, f1, f4, f5, f7, f8, f35, b_b1, b_b2, b_b3]
        exact hJ _ _ _ ⟨by simp [f1], by simp [f4], by simp [f5], by simp [f7], by simp [f8], by simp [-splice, f1, f4, f5, f7, f8, f35, b_b1, b_b2, b_b3], b_b1, l_b1, b_b2, l_b2, b_b3, l_b3, d_b1_b2, d_b1_b3, d_b2_b3⟩
      clear f1 f4 f5 f7 f8 f35 b_b1 l_b1 b_b2 l_b2 b_b3 l_b3 d_b1_b2 d_b1_b3 d_b2_b3
      rintro t H n ⟨f1, f4, f5, f7, f8, f39, b_b1, l_b1, b_b2, l_b2, b_b3, l_b3, d_b1_b2, d_b1_b3, d_b2_b3⟩
      refine Stk.on ?_
      exact Stk.ln 0 (by decide) (hJ4 _ _ _ ⟨f1, f4, f5, f7, f8, f39.trans (congrArg (fun q => AV.sc (.bool q)) (by rw [hb4]; rfl)), b_b1, l_b1, b_b2, l_b2, b_b3, l_b3, d_b1_b2, d_b1_b3, d_b2_b3⟩)
    · rw [hb4] at f35
      refine Stk.run 4 (fun t H n => t 1 = .ssl (encs c32 a1) a1.length false ∧ t 4 = .sc (.string a4) ∧ t 5 = .own b1 0 ∧ t 7 = .own b2 0 ∧ t 8 = .own b3 0 ∧ t 39 = .sc (.bool (decide (300 < (a4.size : Int)))) ∧ H b1 = some (.cells (c51 a0) 51) ∧ b1 < n ∧ H b2 = some (.cells (c40 a2) 40) ∧ b2 < n ∧ H b3 = some (.cells (c40 a3) 40) ∧ b3 < n ∧ b1 ≠ b2 ∧ b1 ≠ b3 ∧ b2 ≠ b3) (fun J hJ => ?_) ?_
      · simp [-splice, f1, f4, f5, f7, f8, f35, b_b1, b_b2, b_b3]
        exact hJ _ _ _ ⟨by simp [f1], by simp [f4], by simp [f5], by simp [f7], by simp [f8], by simp [-splice, f1, f4, f5, f7, f8, f35, b_b1, b_b2, b_b3], b_b1, l_b1, b_b2, l_b2, b_b3, l_b3, d_b1_b2, d_b1_b3, d_b2_b3⟩
      clear f1 f4 f5 f7 f8 f35 b_b1 l_b1 b_b2 l_b2 b_b3 l_b3 d_b1_b2 d_b1_b3 d_b2_b3
      rintro t H n ⟨f1, f4, f5, f7, f8, f39, b_b1, l_b1, b_b2, l_b2, b_b3, l_b3, d_b1_b2, d_b1_b3, d_b2_b3⟩
      refine Stk.on ?_
      exact Stk.ln 0 (by decide) (hJ4 _ _ _ ⟨f1, f4, f5, f7, f8, f39.trans (congrArg (fun q => AV.sc (.bool q)) (by rw [hb4]; rfl)), b_b1, l_b1, b_b2, l_b2, b_b3, l_b3, d_b1_b2, d_b1_b3, d_b2_b3⟩)
  clear f1 f4 f5 f7 f8 f35 b_b1 l_b1 b_b2 l_b2 b_b3 l_b3 d_b1_b2 d_b1_b3 d_b2_b3
  rintro t H n ⟨f1, f4, f5, f7, f8, f39, b_b1, l_b1, b_b2, l_b2, b_b3, l_b3, d_b1_b2, d_b1_b3, d_b2_b3⟩
  refine Stk.on ?_
  refine Stk.cond (v9 || (decide (300 < (a4.size : Int)))) (by exact f39) (fun hb11 => ?_) (fun hb11 => ?_)
  · have h := cT hb11 h
    refine Stk.sq ?_
    refine Stk.rg ?_
    obtain ⟨x12, hx12, h⟩ := bnd h
    refine Stk.cv (g := 7) (args := []) (args' := []) (v := .sc (.bool x12)) [] (ok_L07_awake F  _ hx12) (by simp [f1, f4, f5, f7, f8, f39]) rfl rfl (by simp [f1, f4, f5, f7, f8, f39]) (.nil) (.inl ⟨rfl, rfl⟩) (fun t' ht' => ?_)
    refine Stk.gen (fun t H n => t 40 = .sc (.bool x12)) (by simp [ht']) ?_
    clear f1 f4 f5 f7 f8 f39 b_b1 l_b1 b_b2 l_b2 b_b3 l_b3 d_b1_b2 d_b1_b3 d_b2_b3 ht' t'
    rintro t H n f40
    refine Stk.run 1 (fun t H n => t 10 = .sc (.bool x12)) (fun J hJ => ?_) ?_
    · simp [-splice, f40]
      exact hJ _ _ _ (by simp [-splice, f40])
    clear f40
    rintro t H n f10
    refine Stk.on ?_
    refine Stk.rt ?_
    have hq := Option.some.inj h; subst hq
    exact (hr _ _ _ (.sc (.bool x12)) ([]) (by simp [f10]) (.inr (.inr (.free (rfl))))).1
  · have h := cF hb11 h
    refine Stk.sk ?_
    refine Stk.sq ?_
    refine Stk.rg ?_
    refine Stk.run 2 (fun t H n => t 1 = .ssl (encs c32 a1) a1.length false ∧ t 4 = .sc (.string a4) ∧ t 5 = .own b1 0 ∧ t 7 = .own b2 0 ∧ t 8 = .own b3 0 ∧ t 42 = .ssl (encs c32 a1) a1.length false ∧ t 43 = .sc (.string a4) ∧ H b1 = some (.cells (c51 a0) 51) ∧ b1 < n ∧ H b2 = some (.cells (c40 a2) 40) ∧ b2 < n ∧ H b3 = some (.cells (c40 a3) 40) ∧ b3 < n ∧ b1 ≠ b2 ∧ b1 ≠ b3 ∧ b2 ≠ b3) (fun J hJ => ?_) ?_
    · simp [-splice, f1, f4, f5, f7, f8, f39, b_b1, b_b2, b_b3]
      exact hJ _ _ _ ⟨by simp [f1], by simp [f4], by simp [f5], by simp [f7], by simp [f8], by simp [-splice, f1, f4, f5, f7, f8, f39, b_b1, b_b2, b_b3], by simp [-splice, f1, f4, f5, f7, f8, f39, b_b1, b_b2, b_b3], b_b1, l_b1, b_b2, l_b2, b_b3, l_b3, d_b1_b2, d_b1_b3, d_b2_b3⟩
    clear f1 f4 f5 f7 f8 f39 b_b1 l_b1 b_b2 l_b2 b_b3 l_b3 d_b1_b2 d_b1_b3 d_b2_b3
    rintro t H n ⟨f1, f4, f5, f7, f8, f42, f43, b_b1, l_b1, b_b2, l_b2, b_b3, l_b3, d_b1_b2, d_b1_b3, d_b2_b3⟩
    obtain ⟨x13, hx13, h⟩ := bnd h
    refine Stk.cv (g := 9) (args := [.ssl (encs c32 a1) a1.length false, .sc (.string a4)]) (args' := [.ssl (encs c32 a1) a1.length false, .sc (.string a4)]) (v := .tup [.sc (.int .i64 x13.1), .sc (.int .i64 x13.2.1), .sc (.bool x13.2.2)]) [] (ok_ty_Con F _ _ _ hx13) (by simp [f1, f4, f5, f7, f8, f42, f43]) rfl rfl (by simp [f1, f4, f5, f7, f8, f42, f43]) (.cons (.free (freeL_encs fr32 _)) (.cons (.free (rfl)) (.nil))) (.inl ⟨rfl, by simp [free, freeL]⟩) (fun t' ht' => ?_)
    refine Stk.gen (fun t H n => t 1 = .ssl (encs c32 a1) a1.length false ∧ t 4 = .sc (.string a4) ∧ t 5 = .own b1 0 ∧ t 7 = .own b2 0 ∧ t 8 = .own b3 0 ∧ t 44 = .tup [.sc (.int .i64 x13.1), .sc (.int .i64 x13.2.1), .sc (.bool x13.2.2)] ∧ H b1 = some (.cells (c51 a0) 51) ∧ b1 < n ∧ H b2 = some (.cells (c40 a2) 40) ∧ b2 < n ∧ H b3 = some (.cells (c40 a3) 40) ∧ b3 < n ∧ b1 ≠ b2 ∧ b1 ≠ b3 ∧ b2 ≠ b3) ⟨by simp [ht', f1], by simp [ht', f4], by simp [ht', f5], by simp [ht', f7], by simp [ht', f8], by simp [ht'], b_b1, l_b1, b_b2, l_b2, b_b3, l_b3, d_b1_b2, d_b1_b3, d_b2_b3⟩ ?_
    clear f1 f4 f5 f7 f8 f42 f43 b_b1 l_b1 b_b2 l_b2 b_b3 l_b3 d_b1_b2 d_b1_b3 d_b2_b3 ht' t'
    rintro t H n ⟨f1, f4, f5, f7, f8, f44, b_b1, l_b1, b_b2, l_b2, b_b3, l_b3, d_b1_b2, d_b1_b3, d_b2_b3⟩
    refine Stk.run 7 (fun t H n => t 1 = .ssl (encs c32 a1) a1.length false ∧ t 4 = .sc (.string a4) ∧ t 5 = .own b1 0 ∧ t 7 = .own b2 0 ∧ t 8 = .own b3 0 ∧ t 11 = .sc (.int .i64 x13.1) ∧ t 12 = .sc (.int .i64 x13.2.1) ∧ t 13 = .sc (.bool x13.2.2) ∧ H b1 = some (.cells (c51 a0) 51) ∧ b1 < n ∧ H b2 = some (.cells (c40 a2) 40) ∧ b2 < n ∧ H b3 = some (.cells (c40 a3) 40) ∧ b3 < n ∧ b1 ≠ b2 ∧ b1 ≠ b3 ∧ b2 ≠ b3) (fun J hJ => ?_) ?_
    · simp [-splice, f1, f4, f5, f7, f8, f44, b_b1, b_b2, b_b3]
      exact hJ _ _ _ ⟨by simp [f1], by simp [f4], by simp [f5], by simp [f7], by simp [f8], by simp [-splice, f1, f4, f5, f7, f8, f44, b_b1, b_b2, b_b3], by simp [-splice, f1, f4, f5, f7, f8, f44, b_b1, b_b2, b_b3], by simp [-splice, f1, f4, f5, f7, f8, f44, b_b1, b_b2, b_b3], b_b1, l_b1, b_b2, l_b2, b_b3, l_b3, d_b1_b2, d_b1_b3, d_b2_b3⟩
    clear f1 f4 f5 f7 f8 f44 b_b1 l_b1 b_b2 l_b2 b_b3 l_b3 d_b1_b2 d_b1_b3 d_b2_b3
    rintro t H n ⟨f1, f4, f5, f7, f8, f11, f12, f13, b_b1, l_b1, b_b2, l_b2, b_b3, l_b3, d_b1_b2, d_b1_b3, d_b2_b3⟩
    refine Stk.on ?_
    refine Stk.sq ?_
    refine Stk.rg ?_
    refine Stk.run 2 (fun t H n => t 1 = .ssl (encs c32 a1) a1.length false ∧ t 4 = .sc (.string a4) ∧ t 5 = .own b1 0 ∧ t 7 = .own b2 0 ∧ t 8 = .own b3 0 ∧ t 11 = .sc (.int .i64 x13.1) ∧ t 12 = .sc (.int .i64 x13.2.1) ∧ t 13 = .sc (.bool x13.2.2) ∧ t 49 = .ssl (encs c32 a1) a1.length false ∧ t 50 = .sc (.string a4) ∧ H b1 = some (.cells (c51 a0) 51) ∧ b1 < n ∧ H b2 = some (.cells (c40 a2) 40) ∧ b2 < n ∧ H b3 = some (.cells (c40 a3) 40) ∧ b3 < n ∧ b1 ≠ b2 ∧ b1 ≠ b3 ∧ b2 ≠ b3) (fun J hJ => ?_) ?_
    · simp [-splice, f1, f4, f5, f7, f8, f11, f12, f13, b_b1, b_b2, b_b3]
      exact hJ _ _ _ ⟨by simp [f1], by simp [f4], by simp [f5], by simp [f7], by simp [f8], by simp [f11], by simp [f12], by simp [f13], by simp [-splice, f1, f4, f5, f7, f8, f11, f12, f13, b_b1, b_b2, b_b3], by simp [-splice, f1, f4, f5, f7, f8, f11, f12, f13, b_b1, b_b2, b_b3], b_b1, l_b1, b_b2, l_b2, b_b3, l_b3, d_b1_b2, d_b1_b3, d_b2_b3⟩
    clear f1 f4 f5 f7 f8 f11 f12 f13 b_b1 l_b1 b_b2 l_b2 b_b3 l_b3 d_b1_b2 d_b1_b3 d_b2_b3
    rintro t H n ⟨f1, f4, f5, f7, f8, f11, f12, f13, f49, f50, b_b1, l_b1, b_b2, l_b2, b_b3, l_b3, d_b1_b2, d_b1_b3, d_b2_b3⟩
    obtain ⟨x14, hx14, h⟩ := bnd h
    refine Stk.cv (g := 15) (args := [.ssl (encs c32 a1) a1.length false, .sc (.string a4)]) (args' := [.ssl (encs c32 a1) a1.length false, .sc (.string a4)]) (v := .tup [.sc (.int .i64 x14.1), .sc (.int .i64 x14.2.1), .sc (.bool x14.2.2)]) [] (ok_R07_Con F _ _ _ hx14) (by simp [f1, f4, f5, f7, f8, f11, f12, f13, f49, f50]) rfl rfl (by simp [f1, f4, f5, f7, f8, f11, f12, f13, f49, f50]) (.cons (.free (freeL_encs fr32 _)) (.cons (.free (rfl)) (.nil))) (.inl ⟨rfl, by simp [free, freeL]⟩) (fun t' ht' => ?_)
    refine Stk.gen (fun t H n => t 1 = .ssl (encs c32 a1) a1.length false ∧ t 4 = .sc (.string a4) ∧ t 5 = .own b1 0 ∧ t 7 = .own b2 0 ∧ t 8 = .own b3 0 ∧ t 11 = .sc (.int .i64 x13.1) ∧ t 12 = .sc (.int .i64 x13.2.1) ∧ t 13 = .sc (.bool x13.2.2) ∧ t 51 = .tup [.sc (.int .i64 x14.1), .sc (.int .i64 x14.2.1), .sc (.bool x14.2.2)] ∧ H b1 = some (.cells (c51 a0) 51) ∧ b1 < n ∧ H b2 = some (.cells (c40 a2) 40) ∧ b2 < n ∧ H b3 = some (.cells (c40 a3) 40) ∧ b3 < n ∧ b1 ≠ b2 ∧ b1 ≠ b3 ∧ b2 ≠ b3) ⟨by simp [ht', f1], by simp [ht', f4], by simp [ht', f5], by simp [ht', f7], by simp [ht', f8], by simp [ht', f11], by simp [ht', f12], by simp [ht', f13], by simp [ht'], b_b1, l_b1, b_b2, l_b2, b_b3, l_b3, d_b1_b2, d_b1_b3, d_b2_b3⟩ ?_
    clear f1 f4 f5 f7 f8 f11 f12 f13 f49 f50 b_b1 l_b1 b_b2 l_b2 b_b3 l_b3 d_b1_b2 d_b1_b3 d_b2_b3 ht' t'
    rintro t H n ⟨f1, f4, f5, f7, f8, f11, f12, f13, f51, b_b1, l_b1, b_b2, l_b2, b_b3, l_b3, d_b1_b2, d_b1_b3, d_b2_b3⟩
    refine Stk.run 7 (fun t H n => t 1 = .ssl (encs c32 a1) a1.length false ∧ t 4 = .sc (.string a4) ∧ t 5 = .own b1 0 ∧ t 7 = .own b2 0 ∧ t 8 = .own b3 0 ∧ t 11 = .sc (.int .i64 x13.1) ∧ t 12 = .sc (.int .i64 x13.2.1) ∧ t 13 = .sc (.bool x13.2.2) ∧ t 14 = .sc (.int .i64 x14.1) ∧ t 15 = .sc (.int .i64 x14.2.1) ∧ t 16 = .sc (.bool x14.2.2) ∧ H b1 = some (.cells (c51 a0) 51) ∧ b1 < n ∧ H b2 = some (.cells (c40 a2) 40) ∧ b2 < n ∧ H b3 = some (.cells (c40 a3) 40) ∧ b3 < n ∧ b1 ≠ b2 ∧ b1 ≠ b3 ∧ b2 ≠ b3) (fun J hJ => ?_) ?_
    · simp [-splice, f1, f4, f5, f7, f8, f11, f12, f13, f51, b_b1, b_b2, b_b3]
      exact hJ _ _ _ ⟨by simp [f1], by simp [f4], by simp [f5], by simp [f7], by simp [f8], by simp [f11], by simp [f12], by simp [f13], by simp [-splice, f1, f4, f5, f7, f8, f11, f12, f13, f51, b_b1, b_b2, b_b3], by simp [-splice, f1, f4, f5, f7, f8, f11, f12, f13, f51, b_b1, b_b2, b_b3], by simp [-splice, f1, f4, f5, f7, f8, f11, f12, f13, f51, b_b1, b_b2, b_b3], b_b1, l_b1, b_b2, l_b2, b_b3, l_b3, d_b1_b2, d_b1_b3, d_b2_b3⟩
    clear f1 f4 f5 f7 f8 f11 f12 f13 f51 b_b1 l_b1 b_b2 l_b2 b_b3 l_b3 d_b1_b2 d_b1_b3 d_b2_b3
    rintro t H n ⟨f1, f4, f5, f7, f8, f11, f12, f13, f14, f15, f16, b_b1, l_b1, b_b2, l_b2, b_b3, l_b3, d_b1_b2, d_b1_b3, d_b2_b3⟩
    refine Stk.on ?_
    refine Stk.sq ?_
    obtain ⟨n0, hn0⟩ : ∃ m, m = n := ⟨n, rfl⟩
    have ln0 : n0 ≤ n := Nat.le_of_eq hn0
    refine Stk.rgD [.rd [b1], .rd [], .rd [b1], .rd [], .rd [], .rd [], .rd [], .rd [], .rd [], .rd [], .rd [], .rd [], .rd [], .rd [], .rd [], .rd [], .rd [], .rd [], .rd [], .rd [], .rd [], .rd [], .rd [], .rd [], .rd [], .rd [], .rd [], .rd [], .rd [], .rd [], .rd [], .rd [b2], .rd [], .rd [], .rd [b2], .rd [], .rd [], .rd [], .rd [], .rd [b2], .rd [b3], .rd [], .rd [b2], .rd [b3], .rd [], .rd [], .rd [], .rd [], .rd [b2], .rd [b2], .rd [], .rd [], .rd [], .rd [], .rd [], .rd []] none (by kernel_rfl) (by rfl) rfl (by simp [below, hn0, l_b1, hn0, l_b2, hn0, l_b3]) rfl ?_
    refine Stk.runD 1 (fun t H n => t 1 = .ssl (encs c32 a1) a1.length false ∧ t 4 = .sc (.string a4) ∧ t 5 = .own b1 0 ∧ t 7 = .own b2 0 ∧ t 8 = .own b3 0 ∧ t 11 = .sc (.int .i64 x13.1) ∧ t 12 = .sc (.int .i64 x13.2.1) ∧ t 13 = .sc (.bool x13.2.2) ∧ t 14 = .sc (.int .i64 x14.1) ∧ t 15 = .sc (.int .i64 x14.2.1) ∧ t 16 = .sc (.bool x14.2.2) ∧ t 55 = .agg (c51 a0) ∧ H b1 = some (.cells (c51 a0) 51) ∧ b1 < n ∧ H b2 = some (.cells (c40 a2) 40) ∧ b2 < n ∧ H b3 = some (.cells (c40 a3) 40) ∧ b3 < n ∧ b1 ≠ b2 ∧ b1 ≠ b3 ∧ b2 ≠ b3 ∧ n0 ≤ n) (fun J hJ => ?_) ?_
    · simp [-splice, f1, f4, f5, f7, f8, f11, f12, f13, f14, f15, f16, b_b1, b_b2, b_b3, ld_51_0_51]
      exact hJ _ _ _ ⟨by simp [f1], by simp [f4], by simp [f5], by simp [f7], by simp [f8], by simp [f11], by simp [f12], by simp [f13], by simp [f14], by simp [f15], by simp [f16], by simp [-splice, f1, f4, f5, f7, f8, f11, f12, f13, f14, f15, f16, b_b1, b_b2, b_b3, ld_51_0_51], b_b1, l_b1, b_b2, l_b2, b_b3, l_b3, d_b1_b2, d_b1_b3, d_b2_b3, ln0⟩
    clear f1 f4 f5 f7 f8 f11 f12 f13 f14 f15 f16 b_b1 l_b1 b_b2 l_b2 b_b3 l_b3 d_b1_b2 d_b1_b3 d_b2_b3 ln0
    rintro t H n ⟨f1, f4, f5, f7, f8, f11, f12, f13, f14, f15, f16, f55, b_b1, l_b1, b_b2, l_b2, b_b3, l_b3, d_b1_b2, d_b1_b3, d_b2_b3, ln0⟩
    obtain ⟨x15, hx15, h⟩ := bnd h
    refine Stk.cvD (g := 17) (args := [.agg (c51 a0)]) (args' := [.agg (c51 a0)]) (v := .ssl (encs c32 x15) x15.length false) [] (ok_ty_Datas F _ _ hx15) rfl (by simp) rfl (by simp [f1, f4, f5, f7, f8, f11, f12, f13, f14, f15, f16, f55]) rfl rfl (by simp [f1, f4, f5, f7, f8, f11, f12, f13, f14, f15, f16, f55]) (.cons (.free (fr51 _)) (.nil)) (.inl ⟨rfl, freeL_encs fr32 _⟩) (fun t' ht' => ?_)
    refine Stk.gen (fun t H n => t 1 = .ssl (encs c32 a1) a1.length false ∧ t 4 = .sc (.string a4) ∧ t 5 = .own b1 0 ∧ t 7 = .own b2 0 ∧ t 8 = .own b3 0 ∧ t 11 = .sc (.int .i64 x13.1) ∧ t 12 = .sc (.int .i64 x13.2.1) ∧ t 13 = .sc (.bool x13.2.2) ∧ t 14 = .sc (.int .i64 x14.1) ∧ t 15 = .sc (.int .i64 x14.2.1) ∧ t 16 = .sc (.bool x14.2.2) ∧ t 56 = .ssl (encs c32 x15) x15.length false ∧ H b1 = some (.cells (c51 a0) 51) ∧ b1 < n ∧ H b2 = some (.cells (c40 a2) 40) ∧ b2 < n ∧ H b3 = some (.cells (c40 a3) 40) ∧ b3 < n ∧ b1 ≠ b2 ∧ b1 ≠ b3 ∧ b2 ≠ b3 ∧ n0 ≤ n) ⟨by simp [ht', f1], by simp [ht', f4], by simp [ht', f5], by simp [ht', f7], by simp [ht', f8], by simp [ht', f11], by simp [ht', f12], by simp [ht', f13], by simp [ht', f14], by simp [ht', f15], by simp [ht', f16], by simp [ht'], b_b1, l_b1, b_b2, l_b2, b_b3, l_b3, d_b1_b2, d_b1_b3, d_b2_b3, ln0⟩ ?_
    clear f1 f4 f5 f7 f8 f11 f12 f13 f14 f15 f16 f55 b_b1 l_b1 b_b2 l_b2 b_b3 l_b3 d_b1_b2 d_b1_b3 d_b2_b3 ln0 ht' t'
    rintro t H n ⟨f1, f4, f5, f7, f8, f11, f12, f13, f14, f15, f16, f56, b_b1, l_b1, b_b2, l_b2, b_b3, l_b3, d_b1_b2, d_b1_b3, d_b2_b3, ln0⟩
    refine Stk.runD 1 (fun t H n => t 1 = .ssl (encs c32 a1) a1.length false ∧ t 4 = .sc (.string a4) ∧ t 7 = .own b2 0 ∧ t 8 = .own b3 0 ∧ t 11 = .sc (.int .i64 x13.1) ∧ t 12 = .sc (.int .i64 x13.2.1) ∧ t 13 = .sc (.bool x13.2.2) ∧ t 14 = .sc (.int .i64 x14.1) ∧ t 15 = .sc (.int .i64 x14.2.1) ∧ t 16 = .sc (.bool x14.2.2) ∧ t 56 = .ssl (encs c32 x15) x15.length false ∧ t 57 = .agg (c51 a0) ∧ H b2 = some (.cells (c40 a2) 40) ∧ b2 < n ∧ H b3 = some (.cells (c40 a3) 40) ∧ b3 < n ∧ b2 ≠ b3 ∧ n0 ≤ n) (fun J hJ => ?_) ?_
    · simp [-splice, f1, f4, f5, f7, f8, f11, f12, f13, f14, f15, f16, f56, b_b1, b_b2, b_b3, ld_51_0_51]
      exact hJ _ _ _ ⟨by simp [f1], by simp [f4], by simp [f7], by simp [f8], by simp [f11], by simp [f12], by simp [f13], by simp [f14], by simp [f15], by simp [f16], by simp [f56], by simp [-splice, f1, f4, f5, f7, f8, f11, f12, f13, f14, f15, f16, f56, b_b1, b_b2, b_b3, ld_51_0_51], b_b2, l_b2, b_b3, l_b3, d_b2_b3, ln0⟩
    clear f1 f4 f5 f7 f8 f11 f12 f13 f14 f15 f16 f56 b_b1 l_b1 b_b2 l_b2 b_b3 l_b3 d_b1_b2 d_b1_b3 d_b2_b3 ln0
    rintro t H n ⟨f1, f4, f7, f8, f11, f12, f13, f14, f15, f16, f56, f57, b_b2, l_b2, b_b3, l_b3, d_b2_b3, ln0⟩
    obtain ⟨x16, hx16, h⟩ := bnd h
    refine Stk.cvD (g := 18) (args := [.agg (c51 a0)]) (args' := [.agg (c51 a0)]) (v := .ssl (encs c32 x16) x16.length false) [] (ok_R07_Datas F _ _ hx16) rfl (by simp) rfl (by simp [f1, f4, f7, f8, f11, f12, f13, f14, f15, f16, f56, f57]) rfl rfl (by simp [f1, f4, f7, f8, f11, f12, f13, f14, f15, f16, f56, f57]) (.cons (.free (fr51 _)) (.nil)) (.inl ⟨rfl, freeL_encs fr32 _⟩) (fun t' ht' => ?_)
    refine Stk.gen (fun t H n => t 1 = .ssl (encs c32 a1) a1.length false ∧ t 4 = .sc (.string a4) ∧ t 7 = .own b2 0 ∧ t 8 = .own b3 0 ∧ t 11 = .sc (.int .i64 x13.1) ∧ t 12 = .sc (.int .i64 x13.2.1) ∧ t 13 = .sc (.bool x13.2.2) ∧ t 14 = .sc (.int .i64 x14.1) ∧ t 15 = .sc (.int .i64 x14.2.1) ∧ t 16 = .sc (.bool x14.2.2) ∧ t 56 = .ssl (encs c32 x15) x15.length false ∧ t 58 = .ssl (encs c32 x16) x16.length false ∧ H b2 = some (.cells (c40 a2) 40) ∧ b2 < n ∧ H b3 = some (.cells (c40 a3) 40) ∧ b3 < n ∧ b2 ≠ b3 ∧ n0 ≤ n) ⟨by simp [ht', f1], by simp [ht', f4], by simp [ht', f7], by simp [ht', f8], by simp [ht', f11], by simp [ht', f12], by simp [ht', f13], by simp [ht', f14], by simp [ht', f15], by simp [ht', f16], by simp [ht', f56], by simp [ht'], b_b2, l_b2, b_b3, l_b3, d_b2_b3, ln0⟩ ?_
    clear f1 f4 f7 f8 f11 f12 f13 f14 f15 f16 f56 f57 b_b2 l_b2 b_b3 l_b3 d_b2_b3 ln0 ht' t'
    rintro t H n ⟨f1, f4, f7, f8, f11, f12, f13, f14, f15, f16, f56, f58, b_b2, l_b2, b_b3, l_b3, d_b2_b3, ln0⟩
    obtain ⟨x17, hx17, h⟩ := bnd h
    refine Stk.cvD (g := 16) (args := [.ssl (encs c32 x15) x15.length false, .ssl (encs c32 x16) x16.length false]) (args' := [.ssl (encs c32 x15) x15.length false, .ssl (encs c32 x16) x16.length false]) (v := .sc (.bool x17)) [] (ok_R07_SameDatas F _ _ _ hx17) rfl (by simp) rfl (by simp [f1, f4, f7, f8, f11, f12, f13, f14, f15, f16, f56, f58]) rfl rfl (by simp [f1, f4, f7, f8, f11, f12, f13, f14, f15, f16, f56, f58]) (.cons (.free (freeL_encs fr32 _)) (.cons (.free (freeL_encs fr32 _)) (.nil))) (.inl ⟨rfl, rfl⟩) (fun t' ht' => ?_)
    refine Stk.gen (fun t H n => t 1 = .ssl (encs c32 a1) a1.length false ∧ t 4 = .sc (.string a4) ∧ t 7 = .own b2 0 ∧ t 8 = .own b3 0 ∧ t 11 = .sc (.int .i64 x13.1) ∧ t 12 = .sc (.int .i64 x13.2.1) ∧ t 13 = .sc (.bool x13.2.2) ∧ t 14 = .sc (.int .i64 x14.1) ∧ t 15 = .sc (.int .i64 x14.2.1) ∧ t 16 = .sc (.bool x14.2.2) ∧ t 59 = .sc (.bool x17) ∧ H b2 = some (.cells (c40 a2) 40) ∧ b2 < n ∧ H b3 = some (.cells (c40 a3) 40) ∧ b3 < n ∧ b2 ≠ b3 ∧ n0 ≤ n) ⟨by simp [ht', f1], by simp [ht', f4], by simp [ht', f7], by simp [ht', f8], by simp [ht', f11], by simp [ht', f12], by simp [ht', f13], by simp [ht', f14], by simp [ht', f15], by simp [ht', f16], by simp [ht'], b_b2, l_b2, b_b3, l_b3, d_b2_b3, ln0⟩ ?_
    clear f1 f4 f7 f8 f11 f12 f13 f14 f15 f16 f56 f58 b_b2 l_b2 b_b3 l_b3 d_b2_b3 ln0 ht' t'
    rintro t H n ⟨f1, f4, f7, f8, f11, f12, f13, f14, f15, f16, f59, b_b2, l_b2, b_b3, l_b3, d_b2_b3, ln0⟩
    refine Stk.runD 1 (fun t H n => t 1 = .ssl (encs c32 a1) a1.length false ∧ t 4 = .sc (.string a4) ∧ t 7 = .own b2 0 ∧ t 8 = .own b3 0 ∧ t 11 = .sc (.int .i64 x13.1) ∧ t 12 = .sc (.int .i64 x13.2.1) ∧ t 13 = .sc (.bool x13.2.2) ∧ t 14 = .sc (.int .i64 x14.1) ∧ t 15 = .sc (.int .i64 x14.2.1) ∧ t 16 = .sc (.bool x14.2.2) ∧ t 60 = .sc (.bool x17) ∧ H b2 = some (.cells (c40 a2) 40) ∧ b2 < n ∧ H b3 = some (.cells (c40 a3) 40) ∧ b3 < n ∧ b2 ≠ b3 ∧ n0 ≤ n) (fun J hJ => ?_) ?_
    · simp [-splice, f1, f4, f7, f8, f11, f12, f13, f14, f15, f16, f59, b_b2, b_b3]
      exact hJ _ _ _ ⟨by simp [f1], by simp [f4], by simp [f7], by simp [f8], by simp [f11], by simp [f12], by simp [f13], by simp [f14], by simp [f15], by simp [f16], by simp [-splice, f1, f4, f7, f8, f11, f12, f13, f14, f15, f16, f59, b_b2, b_b3], b_b2, l_b2, b_b3, l_b3, d_b2_b3, ln0⟩
    clear f1 f4 f7 f8 f11 f12 f13 f14 f15 f16 f59 b_b2 l_b2 b_b3 l_b3 d_b2_b3 ln0
    rintro t H n ⟨f1, f4, f7, f8, f11, f12, f13, f14, f15, f16, f60, b_b2, l_b2, b_b3, l_b3, d_b2_b3, ln0⟩
    obtain ⟨K5, hK5, h⟩ := jnd h
    refine Stk.jd 8 (fun t H n => ∃ v18 : Bool, K5 v18 = some r ∧ t 1 = .ssl (encs c32 a1) a1.length false ∧ t 7 = .own b2 0 ∧ t 8 = .own b3 0 ∧ t 11 = .sc (.int .i64 x13.1) ∧ t 12 = .sc (.int .i64 x13.2.1) ∧ t 13 = .sc (.bool x13.2.2) ∧ t 14 = .sc (.int .i64 x14.1) ∧ t 15 = .sc (.int .i64 x14.2.1) ∧ t 16 = .sc (.bool x14.2.2) ∧ t 68 = .sc (.bool v18) ∧ H b2 = some (.cells (c40 a2) 40) ∧ b2 < n ∧ H b3 = some (.cells (c40 a3) 40) ∧ b3 < n ∧ b2 ≠ b3) (fun J5 hJ5 => ?_) ?_
    · rcases Bool.eq_false_or_eq_true x17 with hb5 | hb5
      · rw [hb5] at f60
        replace h := cT hb5 h
        refine Stk.runD 2 (fun t H n => t 1 = .ssl (encs c32 a1) a1.length false ∧ t 4 = .sc (.string a4) ∧ t 7 = .own b2 0 ∧ t 8 = .own b3 0 ∧ t 11 = .sc (.int .i64 x13.1) ∧ t 12 = .sc (.int .i64 x13.2.1) ∧ t 13 = .sc (.bool x13.2.2) ∧ t 14 = .sc (.int .i64 x14.1) ∧ t 15 = .sc (.int .i64 x14.2.1) ∧ t 16 = .sc (.bool x14.2.2) ∧ t 60 = .sc (.bool true) ∧ t 61 = .ssl (encs c32 a1) a1.length false ∧ t 62 = .sc (.string a4) ∧ H b2 = some (.cells (c40 a2) 40) ∧ b2 < n ∧ H b3 = some (.cells (c40 a3) 40) ∧ b3 < n ∧ b2 ≠ b3 ∧ n0 ≤ n) (fun J hJ => ?_) ?_
        · simp [-splice, f1, f4, f7, f8, f11, f12, f13, f14, f15, f16, f60, b_b2, b_b3]
          exact hJ _ _ _ ⟨by simp [f1], by simp [f4], by simp [f7], by simp [f8], by simp [f11], by simp [f12], by simp [f13], by simp [f14], by simp [f15], by simp [f16], by simp [f60], by simp [-splice, f1, f4, f7, f8, f11, f12, f13, f14, f15, f16, f60, b_b2, b_b3], by simp [-splice, f1, f4, f7, f8, f11, f12, f13, f14, f15, f16, f60, b_b2, b_b3], b_b2, l_b2, b_b3, l_b3, d_b2_b3, ln0⟩
        clear f1 f4 f7 f8 f11 f12 f13 f14 f15 f16 f60 b_b2 l_b2 b_b3 l_b3 d_b2_b3 ln0
        rintro t H n ⟨f1, f4, f7, f8, f11, f12, f13, f14, f15, f16, f60, f61, f62, b_b2, l_b2, b_b3, l_b3, d_b2_b3, ln0⟩
        obtain ⟨x19, hx19, h⟩ := bnd h
        refine Stk.cvD (g := 8) (args := [.ssl (encs c32 a1) a1.length false, .sc (.string a4)]) (args' := [.ssl (encs c32 a1) a1.length false, .sc (.string a4)]) (v := .sc (.int .i64 x19)) [] (ok_ty_Find F _ _ _ hx19) rfl (by simp) rfl (by simp [f1, f4, f7, f8, f11, f12, f13, f14, f15, f16, f60, f61, f62]) rfl rfl (by simp [f1, f4, f7, f8, f11, f12, f13, f14, f15, f16, f60, f61, f62]) (.cons (.free (freeL_encs fr32 _)) (.cons (.free (rfl)) (.nil))) (.inl ⟨rfl, rfl⟩) (fun t' ht' => ?_)
        refine Stk.gen (fun t H n => t 1 = .ssl (encs c32 a1) a1.length false ∧ t 4 = .sc (.string a4) ∧ t 7 = .own b2 0 ∧ t 8 = .own b3 0 ∧ t 11 = .sc (.int .i64 x13.1) ∧ t 12 = .sc (.int .i64 x13.2.1) ∧ t 13 = .sc (.bool x13.2.2) ∧ t 14 = .sc (.int .i64 x14.1) ∧ t 15 = .sc (.int .i64 x14.2.1) ∧ t 16 = .sc (.bool x14.2.2) ∧ t 60 = .sc (.bool true) ∧ t 63 = .sc (.int .i64 x19) ∧ H b2 = some (.cells (c40 a2) 40) ∧ b2 < n ∧ H b3 = some (.cells (c40 a3) 40) ∧ b3 < n ∧ b2 ≠ b3 ∧ n0 ≤ n) ⟨by simp [ht', f1], by simp [ht', f4], by simp [ht', f7], by simp [ht', f8], by simp [ht', f11], by simp [ht', f12], by simp [ht', f13], by simp [ht', f14], by simp [ht', f15], by simp [ht', f16], by simp [ht', f60], by simp [ht'], b_b2, l_b2, b_b3, l_b3, d_b2_b3, ln0⟩ ?_
        clear f1 f4 f7 f8 f11 f12 f13 f14 f15 f16 f60 f61 f62 b_b2 l_b2 b_b3 l_b3 d_b2_b3 ln0 ht' t'
        rintro t H n ⟨f1, f4, f7, f8, f11, f12, f13, f14, f15, f16, f60, f63, b_b2, l_b2, b_b3, l_b3, d_b2_b3, ln0⟩
        refine Stk.runD 2 (fun t H n => t 1 = .ssl (encs c32 a1) a1.length false ∧ t 7 = .own b2 0 ∧ t 8 = .own b3 0 ∧ t 11 = .sc (.int .i64 x13.1) ∧ t 12 = .sc (.int .i64 x13.2.1) ∧ t 13 = .sc (.bool x13.2.2) ∧ t 14 = .sc (.int .i64 x14.1) ∧ t 15 = .sc (.int .i64 x14.2.1) ∧ t 16 = .sc (.bool x14.2.2) ∧ t 60 = .sc (.bool true) ∧ t 63 = .sc (.int .i64 x19) ∧ t 64 = .ssl (encs c32 a1) a1.length false ∧ t 65 = .sc (.string a4) ∧ H b2 = some (.cells (c40 a2) 40) ∧ b2 < n ∧ H b3 = some (.cells (c40 a3) 40) ∧ b3 < n ∧ b2 ≠ b3 ∧ n0 ≤ n) (fun J hJ => ?_) ?_
        · simp [-splice, f1, f4, f7, f8, f11, f12, f13, f14, f15, f16, f60, f63, b_b2, b_b3]
          exact hJ _ _ _ ⟨by simp [f1], by simp [f7], by simp [f8], by simp [f11], by simp [f12], by simp [f13], by simp [f14], by simp [f15], by simp [f16], by simp [f60], by simp [f63], by simp [-splice, f1, f4, f7, f8, f11, f12, f13, f14, f15, f16, f60, f63, b_b2, b_b3], by simp [-splice, f1, f4, f7, f8, f11, f12, f13, f14, f15, f16, f60, f63, b_b2, b_b3], b_b2, l_b2, b_b3, l_b3, d_b2_b3, ln0⟩
        clear f1 f4 f7 f8 f11 f12 f13 f14 f15 f16 f60 f63 b_b2 l_b2 b_b3 l_b3 d_b2_b3 ln0
        rintro t H n ⟨f1, f7, f8, f11, f12, f13, f14, f15, f16, f60, f63, f64, f65, b_b2, l_b2, b_b3, l_b3, d_b2_b3, ln0⟩
        obtain ⟨x20, hx20, h⟩ := bnd h
        refine Stk.cvD (g := 12) (args := [.ssl (encs c32 a1) a1.length false, .sc (.string a4)]) (args' := [.ssl (encs c32 a1) a1.length false, .sc (.string a4)]) (v := .sc (.int .i64 x20)) [] (ok_R07_Find F _ _ _ hx20) rfl (by simp) rfl (by simp [f1, f7, f8, f11, f12, f13, f14, f15, f16, f60, f63, f64, f65]) rfl rfl (by simp [f1, f7, f8, f11, f12, f13, f14, f15, f16, f60, f63, f64, f65]) (.cons (.free (freeL_encs fr32 _)) (.cons (.free (rfl)) (.nil))) (.inl ⟨rfl, rfl⟩) (fun t' ht' => ?_)
        refine Stk.gen (fun t H n => t 1 = .ssl (encs c32 a1) a1.length false ∧ t 7 = .own b2 0 ∧ t 8 = .own b3 0 ∧ t 11 = .sc (.int .i64 x13.1) ∧ t 12 = .sc (.int .i64 x13.2.1) ∧ t 13 = .sc (.bool x13.2.2) ∧ t 14 = .sc (.int .i64 x14.1) ∧ t 15 = .sc (.int .i64 x14.2.1) ∧ t 16 = .sc (.bool x14.2.2) ∧ t 60 = .sc (.bool true) ∧ t 63 = .sc (.int .i64 x19) ∧ t 66 = .sc (.int .i64 x20) ∧ H b2 = some (.cells (c40 a2) 40) ∧ b2 < n ∧ H b3 = some (.cells (c40 a3) 40) ∧ b3 < n ∧ b2 ≠ b3 ∧ n0 ≤ n) ⟨by simp [ht', f1], by simp [ht', f7], by simp [ht', f8], by simp [ht', f11], by simp [ht', f12], by simp [ht', f13], by simp [ht', f14], by simp [ht', f15], by simp [ht', f16], by simp [ht', f60], by simp [ht', f63], by simp [ht'], b_b2, l_b2, b_b3, l_b3, d_b2_b3, ln0⟩ ?_
        clear f1 f7 f8 f11 f12 f13 f14 f15 f16 f60 f63 f64 f65 b_b2 l_b2 b_b3 l_b3 d_b2_b3 ln0 ht' t'
        rintro t H n ⟨f1, f7, f8, f11, f12, f13, f14, f15, f16, f60, f63, f66, b_b2, l_b2, b_b3, l_b3, d_b2_b3, ln0⟩
        refine Stk.runD 2 (fun t H n => t 1 = .ssl (encs c32 a1) a1.length false ∧ t 7 = .own b2 0 ∧ t 8 = .own b3 0 ∧ t 11 = .sc (.int .i64 x13.1) ∧ t 12 = .sc (.int .i64 x13.2.1) ∧ t 13 = .sc (.bool x13.2.2) ∧ t 14 = .sc (.int .i64 x14.1) ∧ t 15 = .sc (.int .i64 x14.2.1) ∧ t 16 = .sc (.bool x14.2.2) ∧ t 68 = .sc (.bool (x19 == x20)) ∧ H b2 = some (.cells (c40 a2) 40) ∧ b2 < n ∧ H b3 = some (.cells (c40 a3) 40) ∧ b3 < n ∧ b2 ≠ b3 ∧ n0 ≤ n) (fun J hJ => ?_) ?_
        · simp [-splice, f1, f7, f8, f11, f12, f13, f14, f15, f16, f60, f63, f66, b_b2, b_b3]
          exact hJ _ _ _ ⟨by simp [f1], by simp [f7], by simp [f8], by simp [f11], by simp [f12], by simp [f13], by simp [f14], by simp [f15], by simp [f16], by simp [-splice, f1, f7, f8, f11, f12, f13, f14, f15, f16, f60, f63, f66, b_b2, b_b3], b_b2, l_b2, b_b3, l_b3, d_b2_b3, ln0⟩
        clear f1 f7 f8 f11 f12 f13 f14 f15 f16 f60 f63 f66 b_b2 l_b2 b_b3 l_b3 d_b2_b3 ln0
        rintro t H n ⟨f1, f7, f8, f11, f12, f13, f14, f15, f16, f68, b_b2, l_b2, b_b3, l_b3, d_b2_b3, ln0⟩
        refine Stk.onD ?_
        exact Stk.ln 0 (by decide) (hJ5 _ _ _ ⟨(x19 == x20), h, f1, f7, f8, f11, f12, f13, f14, f15, f16, f68, b_b2, l_b2, b_b3, l_b3, d_b2_b3⟩)
      · rw [hb5] at f60
        replace h := cF hb5 h
        refine Stk.runD 8 (fun t H n => t 1 = .ssl (encs c32 a1) a1.length false ∧ t 7 = .own b2 0 ∧ t 8 = .own b3 0 ∧ t 11 = .sc (.int .i64 x13.1) ∧ t 12 = .sc (.int .i64 x13.2.1) ∧ t 13 = .sc (.bool x13.2.2) ∧ t 14 = .sc (.int .i64 x14.1) ∧ t 15 = .sc (.int .i64 x14.2.1) ∧ t 16 = .sc (.bool x14.2.2) ∧ t 68 = .sc (.bool false) ∧ H b2 = some (.cells (c40 a2) 40) ∧ b2 < n ∧ H b3 = some (.cells (c40 a3) 40) ∧ b3 < n ∧ b2 ≠ b3 ∧ n0 ≤ n) (fun J hJ => ?_) ?_
        · simp [-splice, f1, f4, f7, f8, f11, f12, f13, f14, f15, f16, f60, b_b2, b_b3]
          exact hJ _ _ _ ⟨by simp [f1], by simp [f7], by simp [f8], by simp [f11], by simp [f12], by simp [f13], by simp [f14], by simp [f15], by simp [f16], by simp [-splice, f1, f4, f7, f8, f11, f12, f13, f14, f15, f16, f60, b_b2, b_b3], b_b2, l_b2, b_b3, l_b3, d_b2_b3, ln0⟩
        clear f1 f4 f7 f8 f11 f12 f13 f14 f15 f16 f60 b_b2 l_b2 b_b3 l_b3 d_b2_b3 ln0
        rintro t H n ⟨f1, f7, f8, f11, f12, f13, f14, f15, f16, f68, b_b2, l_b2, b_b3, l_b3, d_b2_b3, ln0⟩
        refine Stk.onD ?_
        exact Stk.ln 0 (by decide) (hJ5 _ _ _ ⟨false, h, f1, f7, f8, f11, f12, f13, f14, f15, f16, f68, b_b2, l_b2, b_b3, l_b3, d_b2_b3⟩)
    clear h f1 f4 f7 f8 f11 f12 f13 f14 f15 f16 f60 b_b2 l_b2 b_b3 l_b3 d_b2_b3 ln0
    rintro t H n ⟨v18, h, f1, f7, f8, f11, f12, f13, f14, f15, f16, f68, b_b2, l_b2, b_b3, l_b3, d_b2_b3⟩
    subst hK5
    refine Stk.runD 1 (fun t H n => t 1 = .ssl (encs c32 a1) a1.length false ∧ t 7 = .own b2 0 ∧ t 8 = .own b3 0 ∧ t 11 = .sc (.int .i64 x13.1) ∧ t 12 = .sc (.int .i64 x13.2.1) ∧ t 13 = .sc (.bool x13.2.2) ∧ t 14 = .sc (.int .i64 x14.1) ∧ t 15 = .sc (.int .i64 x14.2.1) ∧ t 16 = .sc (.bool x14.2.2) ∧ t 69 = .sc (.bool v18) ∧ H b2 = some (.cells (c40 a2) 40) ∧ b2 < n ∧ H b3 = some (.cells (c40 a3) 40) ∧ b3 < n ∧ b2 ≠ b3) (fun J hJ => ?_) ?_
    · simp [-splice, f1, f7, f8, f11, f12, f13, f14, f15, f16, f68, b_b2, b_b3]
      exact hJ _ _ _ ⟨by simp [f1], by simp [f7], by simp [f8], by simp [f11], by simp [f12], by simp [f13], by simp [f14], by simp [f15], by simp [f16], by simp [-splice, f1, f7, f8, f11, f12, f13, f14, f15, f16, f68, b_b2, b_b3], b_b2, l_b2, b_b3, l_b3, d_b2_b3⟩
    clear f1 f7 f8 f11 f12 f13 f14 f15 f16 f68 b_b2 l_b2 b_b3 l_b3 d_b2_b3
    rintro t H n ⟨f1, f7, f8, f11, f12, f13, f14, f15, f16, f69, b_b2, l_b2, b_b3, l_b3, d_b2_b3⟩
    refine Stk.jd 4 (fun t H n => t 1 = .ssl (encs c32 a1) a1.length false ∧ t 7 = .own b2 0 ∧ t 8 = .own b3 0 ∧ t 12 = .sc (.int .i64 x13.2.1) ∧ t 13 = .sc (.bool x13.2.2) ∧ t 15 = .sc (.int .i64 x14.2.1) ∧ t 16 = .sc (.bool x14.2.2) ∧ t 73 = .sc (.bool (v18 && (x13.1 == x14.1))) ∧ H b2 = some (.cells (c40 a2) 40) ∧ b2 < n ∧ H b3 = some (.cells (c40 a3) 40) ∧ b3 < n ∧ b2 ≠ b3) (fun J6 hJ6 => ?_) ?_
    · rcases Bool.eq_false_or_eq_true v18 with hb6 | hb6
      · rw [hb6] at f69
        refine Stk.runD 4 (fun t H n => t 1 = .ssl (encs c32 a1) a1.length false ∧ t 7 = .own b2 0 ∧ t 8 = .own b3 0 ∧ t 12 = .sc (.int .i64 x13.2.1) ∧ t 13 = .sc (.bool x13.2.2) ∧ t 15 = .sc (.int .i64 x14.2.1) ∧ t 16 = .sc (.bool x14.2.2) ∧ t 73 = .sc (.bool (x13.1 == x14.1)) ∧ H b2 = some (.cells (c40 a2) 40) ∧ b2 < n ∧ H b3 = some (.cells (c40 a3) 40) ∧ b3 < n ∧ b2 ≠ b3) (fun J hJ => ?_) ?_
        · simp [-splice, f1, f7, f8, f11, f12, f13, f14, f15, f16, f69, b_b2, b_b3]
          exact hJ _ _ _ ⟨by simp [f1], by simp [f7], by simp [f8], by simp [f12], by simp [f13], by simp [f15], by simp [f16], by simp [-splice, f1, f7, f8, f11, f12, f13, f14, f15, f16, f69, b_b2, b_b3], b_b2, l_b2, b_b3, l_b3, d_b2_b3⟩
        clear f1 f7 f8 f11 f12 f13 f14 f15 f16 f69 b_b2 l_b2 b_b3 l_b3 d_b2_b3
        rintro t H n ⟨f1, f7, f8, f12, f13, f15, f16, f73, b_b2, l_b2, b_b3, l_b3, d_b2_b3⟩
        refine Stk.onD ?_
        exact Stk.ln 0 (by decide) (hJ6 _ _ _ ⟨f1, f7, f8, f12, f13, f15, f16, f73.trans (congrArg (fun q => AV.sc (.bool q)) (by rw [hb6]; rfl)), b_b2, l_b2, b_b3, l_b3, d_b2_b3⟩)
      · rw [hb6] at f69
        refine Stk.runD 4 (fun t H n => t 1 = .ssl (encs c32 a1) a1.length false ∧ t 7 = .own b2 0 ∧ t 8 = .own b3 0 ∧ t 12 = .sc (.int .i64 x13.2.1) ∧ t 13 = .sc (.bool x13.2.2) ∧ t 15 = .sc (.int .i64 x14.2.1) ∧ t 16 = .sc (.bool x14.2.2) ∧ t 73 = .sc (.bool false) ∧ H b2 = some (.cells (c40 a2) 40) ∧ b2 < n ∧ H b3 = some (.cells (c40 a3) 40) ∧ b3 < n ∧ b2 ≠ b3) (fun J hJ => ?_) ?_
        · simp [-splice, f1, f7, f8, f11, f12, f13, f14, f15, f16, f69, b_b2, b_b3]
          exact hJ _ _ _ ⟨by simp [f1], by simp [f7], by simp [f8], by simp [f12], by simp [f13], by simp [f15], by simp [f16], by simp [-splice, f1, f7, f8, f11, f12, f13, f14, f15, f16, f69, b_b2, b_b3], b_b2, l_b2, b_b3, l_b3, d_b2_b3⟩
        clear f1 f7 f8 f11 f12 f13 f14 f15 f16 f69 b_b2 l_b2 b_b3 l_b3 d_b2_b3
        rintro t H n ⟨f1, f7, f8, f12, f13, f15, f16, f73, b_b2, l_b2, b_b3, l_b3, d_b2_b3⟩
        refine Stk.onD ?_
        exact Stk.ln 0 (by decide) (hJ6 _ _ _ ⟨f1, f7, f8, f12, f13, f15, f16, f73.trans (congrArg (fun q => AV.sc (.bool q)) (by rw [hb6]; rfl)), b_b2, l_b2, b_b3, l_b3, d_b2_b3⟩)
    clear f1 f7 f8 f11 f12 f13 f14 f15 f16 f69 b_b2 l_b2 b_b3 l_b3 d_b2_b3
    rintro t H n ⟨f1, f7, f8, f12, f13, f15, f16, f73, b_b2, l_b2, b_b3, l_b3, d_b2_b3⟩
    refine Stk.runD 1 (fun t H n => t 1 = .ssl (encs c32 a1) a1.length false ∧ t 7 = .own b2 0 ∧ t 8 = .own b3 0 ∧ t 12 = .sc (.int .i64 x13.2.1) ∧ t 13 = .sc (.bool x13.2.2) ∧ t 15 = .sc (.int .i64 x14.2.1) ∧ t 16 = .sc (.bool x14.2.2) ∧ t 74 = .sc (.bool (v18 && (x13.1 == x14.1))) ∧ H b2 = some (.cells (c40 a2) 40) ∧ b2 < n ∧ H b3 = some (.cells (c40 a3) 40) ∧ b3 < n ∧ b2 ≠ b3) (fun J hJ => ?_) ?_
    · simp [-splice, f1, f7, f8, f12, f13, f15, f16, f73, b_b2, b_b3]
      exact hJ _ _ _ ⟨by simp [f1], by simp [f7], by simp [f8], by simp [f12], by simp [f13], by simp [f15], by simp [f16], by simp [-splice, f1, f7, f8, f12, f13, f15, f16, f73, b_b2, b_b3], b_b2, l_b2, b_b3, l_b3, d_b2_b3⟩
    clear f1 f7 f8 f12 f13 f15 f16 f73 b_b2 l_b2 b_b3 l_b3 d_b2_b3
    rintro t H n ⟨f1, f7, f8, f12, f13, f15, f16, f74, b_b2, l_b2, b_b3, l_b3, d_b2_b3⟩
    refine Stk.jd 4 (fun t H n => t 1 = .ssl (encs c32 a1) a1.length false ∧ t 7 = .own b2 0 ∧ t 8 = .own b3 0 ∧ t 13 = .sc (.bool x13.2.2) ∧ t 16 = .sc (.bool x14.2.2) ∧ t 78 = .sc (.bool ((v18 && (x13.1 == x14.1)) && (x13.2.1 == x14.2.1))) ∧ H b2 = some (.cells (c40 a2) 40) ∧ b2 < n ∧ H b3 = some (.cells (c40 a3) 40) ∧ b3 < n ∧ b2 ≠ b3) (fun J7 hJ7 => ?_) ?_
    · rcases Bool.eq_false_or_eq_true (v18 && (x13.1 == x14.1)) with hb7 | hb7
      · rw [hb7] at f74
        refine Stk.runD 4 (fun t H n => t 1 = .ssl (encs c32 a1) a1.length false ∧ t 7 = .own b2 0 ∧ t 8 = .own b3 0 ∧ t 13 = .sc (.bool x13.2.2) ∧ t 16 = .sc (.bool x14.2.2) ∧ t 78 = .sc (.bool (x13.2.1 == x14.2.1)) ∧ H b2 = some (.cells (c40 a2) 40) ∧ b2 < n ∧ H b3 = some (.cells (c40 a3) 40) ∧ b3 < n ∧ b2 ≠ b3) (fun J hJ => ?_) ?_
        · simp [-splice, f1, f7, f8, f12, f13, f15, f16, f74, b_b2, b_b3]
          exact hJ _ _ _ ⟨by simp [f1], by simp [f7], by simp [f8], by simp [f13], by simp [f16], by simp [-splice, f1, f7, f8, f12, f13, f15, f16, f74, b_b2, b_b3], b_b2, l_b2, b_b3, l_b3, d_b2_b3⟩
        clear f1 f7 f8 f12 f13 f15 f16 f74 b_b2 l_b2 b_b3 l_b3 d_b2_b3
        rintro t H n ⟨f1, f7, f8, f13, f16, f78, b_b2, l_b2, b_b3, l_b3, d_b2_b3⟩
        refine Stk.onD ?_
        exact Stk.ln 0 (by decide) (hJ7 _ _ _ ⟨f1, f7, f8, f13, f16, f78.trans (congrArg (fun q => AV.sc (.bool q)) (by rw [hb7]; rfl)), b_b2, l_b2, b_b3, l_b3, d_b2_b3⟩)
      · rw [hb7] at f74
        refine Stk.runD 4 (fun t H n => t 1 = .ssl (encs c32 a1) a1.length false ∧ t 7 = .own b2 0 ∧ t 8 = .own b3 0 ∧ t 13 = .sc (.bool x13.2.2) ∧ t 16 = .sc (.bool x14.2.2) ∧ t 78 = .sc (.bool false) ∧ H b2 = some (.cells (c40 a2) 40) ∧ b2 < n ∧ H b3 = some (.cells (c40 a3) 40) ∧ b3 < n ∧ b2 ≠ b3) (fun J hJ => ?_) ?_
        · simp [-splice, f1, f7, f8, f12, f13, f15, f16, f74, b_b2, b_b3]
          exact hJ _ _ _ ⟨by simp [f1], by simp [f7], by simp [f8], by simp [f13], by simp [f16], by simp [-splice, f1, f7, f8, f12, f13, f15, f16, f74, b_b2, b_b3], b_b2, l_b2, b_b3, l_b3, d_b2_b3⟩
        clear f1 f7 f8 f12 f13 f15 f16 f74 b_b2 l_b2 b_b3 l_b3 d_b2_b3
        rintro t H n ⟨f1, f7, f8, f13, f16, f78, b_b2, l_b2, b_b3, l_b3, d_b2_b3⟩
        refine Stk.onD ?_
        exact Stk.ln 0 (by decide) (hJ7 _ _ _ ⟨f1, f7, f8, f13, f16, f78.trans (congrArg (fun q => AV.sc (.bool q)) (by rw [hb7]; rfl)), b_b2, l_b2, b_b3, l_b3, d_b2_b3⟩)
    clear f1 f7 f8 f12 f13 f15 f16 f74 b_b2 l_b2 b_b3 l_b3 d_b2_b3
    rintro t H n ⟨f1, f7, f8, f13, f16, f78, b_b2, l_b2, b_b3, l_b3, d_b2_b3⟩
    refine Stk.runD 1 (fun t H n => t 1 = .ssl (encs c32 a1) a1.length false ∧ t 7 = .own b2 0 ∧ t 8 = .own b3 0 ∧ t 13 = .sc (.bool x13.2.2) ∧ t 16 = .sc (.bool x14.2.2) ∧ t 79 = .sc (.bool ((v18 && (x13.1 == x14.1)) && (x13.2.1 == x14.2.1))) ∧ H b2 = some (.cells (c40 a2) 40) ∧ b2 < n ∧ H b3 = some (.cells (c40 a3) 40) ∧ b3 < n ∧ b2 ≠ b3) (fun J hJ => ?_) ?_
    · simp [-splice, f1, f7, f8, f13, f16, f78, b_b2, b_b3]
      exact hJ _ _ _ ⟨by simp [f1], by simp [f7], by simp [f8], by simp [f13], by simp [f16], by simp [-splice, f1, f7, f8, f13, f16, f78, b_b2, b_b3], b_b2, l_b2, b_b3, l_b3, d_b2_b3⟩
    clear f1 f7 f8 f13 f16 f78 b_b2 l_b2 b_b3 l_b3 d_b2_b3
    rintro t H n ⟨f1, f7, f8, f13, f16, f79, b_b2, l_b2, b_b3, l_b3, d_b2_b3⟩
    refine Stk.jd 4 (fun t H n => t 1 = .ssl (encs c32 a1) a1.length false ∧ t 7 = .own b2 0 ∧ t 8 = .own b3 0 ∧ t 83 = .sc (.bool (((v18 && (x13.1 == x14.1)) && (x13.2.1 == x14.2.1)) && (x13.2.2 == x14.2.2))) ∧ H b2 = some (.cells (c40 a2) 40) ∧ b2 < n ∧ H b3 = some (.cells (c40 a3) 40) ∧ b3 < n ∧ b2 ≠ b3) (fun J8 hJ8 => ?_) ?_
    · rcases Bool.eq_false_or_eq_true ((v18 && (x13.1 == x14.1)) && (x13.2.1 == x14.2.1)) with hb8 | hb8
      · rw [hb8] at f79
        refine Stk.runD 4 (fun t H n => t 1 = .ssl (encs c32 a1) a1.length false ∧ t 7 = .own b2 0 ∧ t 8 = .own b3 0 ∧ t 83 = .sc (.bool (x13.2.2 == x14.2.2)) ∧ H b2 = some (.cells (c40 a2) 40) ∧ b2 < n ∧ H b3 = some (.cells (c40 a3) 40) ∧ b3 < n ∧ b2 ≠ b3) (fun J hJ => ?_) ?_
        · simp [-splice, f1, f7, f8, f13, f16, f79, b_b2, b_b3, eqM4]
          exact hJ _ _ _ ⟨by simp [f1], by simp [f7], by simp [f8], by simp [-splice, f1, f7, f8, f13, f16, f79, b_b2, b_b3, eqM4], b_b2, l_b2, b_b3, l_b3, d_b2_b3⟩
        clear f1 f7 f8 f13 f16 f79 b_b2 l_b2 b_b3 l_b3 d_b2_b3
        rintro t H n ⟨f1, f7, f8, f83, b_b2, l_b2, b_b3, l_b3, d_b2_b3⟩
        refine Stk.onD ?_
        exact Stk.ln 0 (by decide) (hJ8 _ _ _ ⟨f1, f7, f8, f83.trans (congrArg (fun q => AV.sc (.bool q)) (by rw [hb8]; rfl)), b_b2, l_b2, b_b3, l_b3, d_b2_b3⟩)
      · rw [hb8] at f79
        refine Stk.runD 4 (fun t H n => t 1 = .ssl (encs c32 a1) a1.length false ∧ t 7 = .own b2 0 ∧ t 8 = .own b3 0 ∧ t 83 = .sc (.bool false) ∧ H b2 = some (.cells (c40 a2) 40) ∧ b2 < n ∧ H b3 = some (.cells (c40 a3) 40) ∧ b3 < n ∧ b2 ≠ b3) (fun J hJ => ?_) ?_
        · simp [-splice, f1, f7, f8, f13, f16, f79, b_b2, b_b3]
          exact hJ _ _ _ ⟨by simp [f1], by simp [f7], by simp [f8], by simp [-splice, f1, f7, f8, f13, f16, f79, b_b2, b_b3], b_b2, l_b2, b_b3, l_b3, d_b2_b3⟩
        clear f1 f7 f8 f13 f16 f79 b_b2 l_b2 b_b3 l_b3 d_b2_b3
        rintro t H n ⟨f1, f7, f8, f83, b_b2, l_b2, b_b3, l_b3, d_b2_b3⟩
        refine Stk.onD ?_
        exact Stk.ln 0 (by decide) (hJ8 _ _ _ ⟨f1, f7, f8, f83.trans (congrArg (fun q => AV.sc (.bool q)) (by rw [hb8]; rfl)), b_b2, l_b2, b_b3, l_b3, d_b2_b3⟩)
    clear f1 f7 f8 f13 f16 f79 b_b2 l_b2 b_b3 l_b3 d_b2_b3
    rintro t H n ⟨f1, f7, f8, f83, b_b2, l_b2, b_b3, l_b3, d_b2_b3⟩
    refine Stk.runD 1 (fun t H n => t 1 = .ssl (encs c32 a1) a1.length false ∧ t 7 = .own b2 0 ∧ t 8 = .own b3 0 ∧ t 84 = .sc (.bool (((v18 && (x13.1 == x14.1)) && (x13.2.1 == x14.2.1)) && (x13.2.2 == x14.2.2))) ∧ H b2 = some (.cells (c40 a2) 40) ∧ b2 < n ∧ H b3 = some (.cells (c40 a3) 40) ∧ b3 < n ∧ b2 ≠ b3) (fun J hJ => ?_) ?_
    · simp [-splice, f1, f7, f8, f83, b_b2, b_b3]
      exact hJ _ _ _ ⟨by simp [f1], by simp [f7], by simp [f8], by simp [-splice, f1, f7, f8, f83, b_b2, b_b3], b_b2, l_b2, b_b3, l_b3, d_b2_b3⟩
    clear f1 f7 f8 f83 b_b2 l_b2 b_b3 l_b3 d_b2_b3
    rintro t H n ⟨f1, f7, f8, f84, b_b2, l_b2, b_b3, l_b3, d_b2_b3⟩
    obtain ⟨K9, hK9, h⟩ := jnd h
    refine Stk.jd 8 (fun t H n => ∃ v21 : Bool, K9 v21 = some r ∧ t 7 = .own b2 0 ∧ t 8 = .own b3 0 ∧ t 92 = .sc (.bool v21) ∧ H b2 = some (.cells (c40 a2) 40) ∧ b2 < n ∧ H b3 = some (.cells (c40 a3) 40) ∧ b3 < n ∧ b2 ≠ b3) (fun J9 hJ9 => ?_) ?_
    · rcases Bool.eq_false_or_eq_true (((v18 && (x13.1 == x14.1)) && (x13.2.1 == x14.2.1)) && (x13.2.2 == x14.2.2)) with hb9 | hb9
      · rw [hb9] at f84
        replace h := cT hb9 h
        refine Stk.runD 2 (fun t H n => t 1 = .ssl (encs c32 a1) a1.length false ∧ t 7 = .own b2 0 ∧ t 8 = .own b3 0 ∧ t 84 = .sc (.bool true) ∧ t 85 = .ssl (encs c32 a1) a1.length false ∧ t 86 = .agg (c40 a2) ∧ H b2 = some (.cells (c40 a2) 40) ∧ b2 < n ∧ H b3 = some (.cells (c40 a3) 40) ∧ b3 < n ∧ b2 ≠ b3) (fun J hJ => ?_) ?_
        · simp [-splice, f1, f7, f8, f84, b_b2, b_b3, ld_40_0_40]
          exact hJ _ _ _ ⟨by simp [f1], by simp [f7], by simp [f8], by simp [f84], by simp [-splice, f1, f7, f8, f84, b_b2, b_b3, ld_40_0_40], by simp [-splice, f1, f7, f8, f84, b_b2, b_b3, ld_40_0_40], b_b2, l_b2, b_b3, l_b3, d_b2_b3⟩
        clear f1 f7 f8 f84 b_b2 l_b2 b_b3 l_b3 d_b2_b3
        rintro t H n ⟨f1, f7, f8, f84, f85, f86, b_b2, l_b2, b_b3, l_b3, d_b2_b3⟩
        obtain ⟨x22, hx22, h⟩ := bnd h
        refine Stk.cvD (g := 11) (args := [.ssl (encs c32 a1) a1.length false, .agg (c40 a2)]) (args' := [.ssl (encs c32 a1) a1.length false, .agg (c40 a2)]) (v := .sc (.bool x22)) [] (ok_ty_Known F _ _ _ hx22) rfl (by simp) rfl (by simp [f1, f7, f8, f84, f85, f86]) rfl rfl (by simp [f1, f7, f8, f84, f85, f86]) (.cons (.free (freeL_encs fr32 _)) (.cons (.free (fr40 _)) (.nil))) (.inl ⟨rfl, rfl⟩) (fun t' ht' => ?_)
        refine Stk.gen (fun t H n => t 1 = .ssl (encs c32 a1) a1.length false ∧ t 7 = .own b2 0 ∧ t 8 = .own b3 0 ∧ t 84 = .sc (.bool true) ∧ t 87 = .sc (.bool x22) ∧ H b2 = some (.cells (c40 a2) 40) ∧ b2 < n ∧ H b3 = some (.cells (c40 a3) 40) ∧ b3 < n ∧ b2 ≠ b3) ⟨by simp [ht', f1], by simp [ht', f7], by simp [ht', f8], by simp [ht', f84], by simp [ht'], b_b2, l_b2, b_b3, l_b3, d_b2_b3⟩ ?_
        clear f1 f7 f8 f84 f85 f86 b_b2 l_b2 b_b3 l_b3 d_b2_b3 ht' t'
        rintro t H n ⟨f1, f7, f8, f84, f87, b_b2, l_b2, b_b3, l_b3, d_b2_b3⟩
        refine Stk.runD 2 (fun t H n => t 7 = .own b2 0 ∧ t 8 = .own b3 0 ∧ t 84 = .sc (.bool true) ∧ t 87 = .sc (.bool x22) ∧ t 88 = .ssl (encs c32 a1) a1.length false ∧ t 89 = .agg (c40 a2) ∧ H b2 = some (.cells (c40 a2) 40) ∧ b2 < n ∧ H b3 = some (.cells (c40 a3) 40) ∧ b3 < n ∧ b2 ≠ b3) (fun J hJ => ?_) ?_
        · simp [-splice, f1, f7, f8, f84, f87, b_b2, b_b3, ld_40_0_40]
          exact hJ _ _ _ ⟨by simp [f7], by simp [f8], by simp [f84], by simp [f87], by simp [-splice, f1, f7, f8, f84, f87, b_b2, b_b3, ld_40_0_40], by simp [-splice, f1, f7, f8, f84, f87, b_b2, b_b3, ld_40_0_40], b_b2, l_b2, b_b3, l_b3, d_b2_b3⟩
        clear f1 f7 f8 f84 f87 b_b2 l_b2 b_b3 l_b3 d_b2_b3
        rintro t H n ⟨f7, f8, f84, f87, f88, f89, b_b2, l_b2, b_b3, l_b3, d_b2_b3⟩
        obtain ⟨x23, hx23, h⟩ := bnd h
        refine Stk.cvD (g := 19) (args := [.ssl (encs c32 a1) a1.length false, .agg (c40 a2)]) (args' := [.ssl (encs c32 a1) a1.length false, .agg (c40 a2)]) (v := .sc (.bool x23)) [] (ok_R07_Known F _ _ _ hx23) rfl (by simp) rfl (by simp [f7, f8, f84, f87, f88, f89]) rfl rfl (by simp [f7, f8, f84, f87, f88, f89]) (.cons (.free (freeL_encs fr32 _)) (.cons (.free (fr40 _)) (.nil))) (.inl ⟨rfl, rfl⟩) (fun t' ht' => ?_)
        refine Stk.gen (fun t H n => t 7 = .own b2 0 ∧ t 8 = .own b3 0 ∧ t 84 = .sc (.bool true) ∧ t 87 = .sc (.bool x22) ∧ t 90 = .sc (.bool x23) ∧ H b2 = some (.cells (c40 a2) 40) ∧ b2 < n ∧ H b3 = some (.cells (c40 a3) 40) ∧ b3 < n ∧ b2 ≠ b3) ⟨by simp [ht', f7], by simp [ht', f8], by simp [ht', f84], by simp [ht', f87], by simp [ht'], b_b2, l_b2, b_b3, l_b3, d_b2_b3⟩ ?_
        clear f7 f8 f84 f87 f88 f89 b_b2 l_b2 b_b3 l_b3 d_b2_b3 ht' t'
        rintro t H n ⟨f7, f8, f84, f87, f90, b_b2, l_b2, b_b3, l_b3, d_b2_b3⟩
        refine Stk.runD 2 (fun t H n => t 7 = .own b2 0 ∧ t 8 = .own b3 0 ∧ t 92 = .sc (.bool (x22 == x23)) ∧ H b2 = some (.cells (c40 a2) 40) ∧ b2 < n ∧ H b3 = some (.cells (c40 a3) 40) ∧ b3 < n ∧ b2 ≠ b3) (fun J hJ => ?_) ?_
        · simp [-splice, f7, f8, f84, f87, f90, b_b2, b_b3, eqM4]
          exact hJ _ _ _ ⟨by simp [f7], by simp [f8], by simp [-splice, f7, f8, f84, f87, f90, b_b2, b_b3, eqM4], b_b2, l_b2, b_b3, l_b3, d_b2_b3⟩
        clear f7 f8 f84 f87 f90 b_b2 l_b2 b_b3 l_b3 d_b2_b3
        rintro t H n ⟨f7, f8, f92, b_b2, l_b2, b_b3, l_b3, d_b2_b3⟩
        refine Stk.onD ?_
        exact Stk.ln 0 (by decide) (hJ9 _ _ _ ⟨(x22 == x23), h, f7, f8, f92, b_b2, l_b2, b_b3, l_b3, d_b2_b3⟩)
      · rw [hb9] at f84
        replace h := cF hb9 h
        refine Stk.runD 8 (fun t H n => t 7 = .own b2 0 ∧ t 8 = .own b3 0 ∧ t 92 = .sc (.bool false) ∧ H b2 = some (.cells (c40 a2) 40) ∧ b2 < n ∧ H b3 = some (.cells (c40 a3) 40) ∧ b3 < n ∧ b2 ≠ b3) (fun J hJ => ?_) ?_
        · simp [-splice, f1, f7, f8, f84, b_b2, b_b3]
          exact hJ _ _ _ ⟨by simp [f7], by simp [f8], by simp [-splice, f1, f7, f8, f84, b_b2, b_b3], b_b2, l_b2, b_b3, l_b3, d_b2_b3⟩
        clear f1 f7 f8 f84 b_b2 l_b2 b_b3 l_b3 d_b2_b3
        rintro t H n ⟨f7, f8, f92, b_b2, l_b2, b_b3, l_b3, d_b2_b3⟩
        refine Stk.onD ?_
        exact Stk.ln 0 (by decide) (hJ9 _ _ _ ⟨false, h, f7, f8, f92, b_b2, l_b2, b_b3, l_b3, d_b2_b3⟩)
    clear h f1 f7 f8 f84 b_b2 l_b2 b_b3 l_b3 d_b2_b3
    rintro t H n ⟨v21, h, f7, f8, f92, b_b2, l_b2, b_b3, l_b3, d_b2_b3⟩
    subst hK9
    refine Stk.runD 1 (fun t H n => t 7 = .own b2 0 ∧ t 8 = .own b3 0 ∧ t 93 = .sc (.bool v21) ∧ H b2 = some (.cells (c40 a2) 40) ∧ b2 < n ∧ H b3 = some (.cells (c40 a3) 40) ∧ b3 < n ∧ b2 ≠ b3) (fun J hJ => ?_) ?_
    · simp [-splice, f7, f8, f92, b_b2, b_b3]
      exact hJ _ _ _ ⟨by simp [f7], by simp [f8], by simp [-splice, f7, f8, f92, b_b2, b_b3], b_b2, l_b2, b_b3, l_b3, d_b2_b3⟩
    clear f7 f8 f92 b_b2 l_b2 b_b3 l_b3 d_b2_b3
    rintro t H n ⟨f7, f8, f93, b_b2, l_b2, b_b3, l_b3, d_b2_b3⟩
    obtain ⟨K10, hK10, h⟩ := jnd h
    refine Stk.jd 8 (fun t H n => ∃ v24 : Bool, K10 v24 = some r ∧ t 7 = .own b2 0 ∧ t 101 = .sc (.bool v24) ∧ H b2 = some (.cells (c40 a2) 40) ∧ b2 < n) (fun J10 hJ10 => ?_) ?_
    · rcases Bool.eq_false_or_eq_true v21 with hb10 | hb10
      · rw [hb10] at f93
        replace h := cT hb10 h
        refine Stk.runD 2 (fun t H n => t 7 = .own b2 0 ∧ t 8 = .own b3 0 ∧ t 93 = .sc (.bool true) ∧ t 94 = .agg (c40 a2) ∧ t 95 = .agg (c40 a3) ∧ H b2 = some (.cells (c40 a2) 40) ∧ b2 < n ∧ H b3 = some (.cells (c40 a3) 40) ∧ b3 < n ∧ b2 ≠ b3) (fun J hJ => ?_) ?_
        · simp [-splice, f7, f8, f93, b_b2, b_b3, ld_40_0_40]
          exact hJ _ _ _ ⟨by simp [f7], by simp [f8], by simp [f93], by simp [-splice, f7, f8, f93, b_b2, b_b3, ld_40_0_40], by simp [-splice, f7, f8, f93, b_b2, b_b3, ld_40_0_40], b_b2, l_b2, b_b3, l_b3, d_b2_b3⟩
        clear f7 f8 f93 b_b2 l_b2 b_b3 l_b3 d_b2_b3
        rintro t H n ⟨f7, f8, f93, f94, f95, b_b2, l_b2, b_b3, l_b3, d_b2_b3⟩
        obtain ⟨x25, hx25, h⟩ := bnd h
        refine Stk.cvD (g := 20) (args := [.agg (c40 a2), .agg (c40 a3)]) (args' := [.agg (c40 a2), .agg (c40 a3)]) (v := .sc (.bool x25)) [] (ok_ty_Same F _ _ _ hx25) rfl (by simp) rfl (by simp [f7, f8, f93, f94, f95]) rfl rfl (by simp [f7, f8, f93, f94, f95]) (.cons (.free (fr40 _)) (.cons (.free (fr40 _)) (.nil))) (.inl ⟨rfl, rfl⟩) (fun t' ht' => ?_)
        refine Stk.gen (fun t H n => t 7 = .own b2 0 ∧ t 8 = .own b3 0 ∧ t 93 = .sc (.bool true) ∧ t 96 = .sc (.bool x25) ∧ H b2 = some (.cells (c40 a2) 40) ∧ b2 < n ∧ H b3 = some (.cells (c40 a3) 40) ∧ b3 < n ∧ b2 ≠ b3) ⟨by simp [ht', f7], by simp [ht', f8], by simp [ht', f93], by simp [ht'], b_b2, l_b2, b_b3, l_b3, d_b2_b3⟩ ?_
        clear f7 f8 f93 f94 f95 b_b2 l_b2 b_b3 l_b3 d_b2_b3 ht' t'
        rintro t H n ⟨f7, f8, f93, f96, b_b2, l_b2, b_b3, l_b3, d_b2_b3⟩
        refine Stk.runD 2 (fun t H n => t 7 = .own b2 0 ∧ t 93 = .sc (.bool true) ∧ t 96 = .sc (.bool x25) ∧ t 97 = .agg (c40 a2) ∧ t 98 = .agg (c40 a3) ∧ H b2 = some (.cells (c40 a2) 40) ∧ b2 < n) (fun J hJ => ?_) ?_
        · simp [-splice, f7, f8, f93, f96, b_b2, b_b3, ld_40_0_40]
          exact hJ _ _ _ ⟨by simp [f7], by simp [f93], by simp [f96], by simp [-splice, f7, f8, f93, f96, b_b2, b_b3, ld_40_0_40], by simp [-splice, f7, f8, f93, f96, b_b2, b_b3, ld_40_0_40], b_b2, l_b2⟩
        clear f7 f8 f93 f96 b_b2 l_b2 b_b3 l_b3 d_b2_b3
        rintro t H n ⟨f7, f93, f96, f97, f98, b_b2, l_b2⟩
        obtain ⟨x26, hx26, h⟩ := bnd h
        refine Stk.cvD (g := 21) (args := [.agg (c40 a2), .agg (c40 a3)]) (args' := [.agg (c40 a2), .agg (c40 a3)]) (v := .sc (.bool x26)) [] (ok_R07_Same F _ _ _ hx26) rfl (by simp) rfl (by simp [f7, f93, f96, f97, f98]) rfl rfl (by simp [f7, f93, f96, f97, f98]) (.cons (.free (fr40 _)) (.cons (.free (fr40 _)) (.nil))) (.inl ⟨rfl, rfl⟩) (fun t' ht' => ?_)
        refine Stk.gen (fun t H n => t 7 = .own b2 0 ∧ t 93 = .sc (.bool true) ∧ t 96 = .sc (.bool x25) ∧ t 99 = .sc (.bool x26) ∧ H b2 = some (.cells (c40 a2) 40) ∧ b2 < n) ⟨by simp [ht', f7], by simp [ht', f93], by simp [ht', f96], by simp [ht'], b_b2, l_b2⟩ ?_
        clear f7 f93 f96 f97 f98 b_b2 l_b2 ht' t'
        rintro t H n ⟨f7, f93, f96, f99, b_b2, l_b2⟩
        refine Stk.runD 2 (fun t H n => t 7 = .own b2 0 ∧ t 101 = .sc (.bool (x25 == x26)) ∧ H b2 = some (.cells (c40 a2) 40) ∧ b2 < n) (fun J hJ => ?_) ?_
        · simp [-splice, f7, f93, f96, f99, b_b2, eqM4]
          exact hJ _ _ _ ⟨by simp [f7], by simp [-splice, f7, f93, f96, f99, b_b2, eqM4], b_b2, l_b2⟩
        clear f7 f93 f96 f99 b_b2 l_b2
        rintro t H n ⟨f7, f101, b_b2, l_b2⟩
        refine Stk.onD ?_
        exact Stk.ln 0 (by decide) (hJ10 _ _ _ ⟨(x25 == x26), h, f7, f101, b_b2, l_b2⟩)
      · rw [hb10] at f93
        replace h := cF hb10 h
        refine Stk.runD 8 (fun t H n => t 7 = .own b2 0 ∧ t 101 = .sc (.bool false) ∧ H b2 = some (.cells (c40 a2) 40) ∧ b2 < n) (fun J hJ => ?_) ?_
        · simp [-splice, f7, f8, f93, b_b2, b_b3]
          exact hJ _ _ _ ⟨by simp [f7], by simp [-splice, f7, f8, f93, b_b2, b_b3], b_b2, l_b2⟩
        clear f7 f8 f93 b_b2 l_b2 b_b3 l_b3 d_b2_b3
        rintro t H n ⟨f7, f101, b_b2, l_b2⟩
        refine Stk.onD ?_
        exact Stk.ln 0 (by decide) (hJ10 _ _ _ ⟨false, h, f7, f101, b_b2, l_b2⟩)
    clear h f7 f8 f93 b_b2 l_b2 b_b3 l_b3 d_b2_b3
    rintro t H n ⟨v24, h, f7, f101, b_b2, l_b2⟩
    subst hK10
    refine Stk.runD 1 (fun t H n => t 7 = .own b2 0 ∧ t 102 = .sc (.bool v24) ∧ H b2 = some (.cells (c40 a2) 40) ∧ b2 < n) (fun J hJ => ?_) ?_
    · simp [-splice, f7, f101, b_b2]
      exact hJ _ _ _ ⟨by simp [f7], by simp [-splice, f7, f101, b_b2], b_b2, l_b2⟩
    clear f7 f101 b_b2 l_b2
    rintro t H n ⟨f7, f102, b_b2, l_b2⟩
    obtain ⟨K11, hK11, h⟩ := jnd h
    refine Stk.jd 4 (fun t H n => ∃ v27 : Bool, K11 v27 = some r ∧ t 106 = .sc (.bool v27)) (fun J11 hJ11 => ?_) ?_
    · rcases Bool.eq_false_or_eq_true v24 with hb11 | hb11
      · rw [hb11] at f102
        replace h := cT hb11 h
        refine Stk.runD 2 (fun t H n => t 102 = .sc (.bool true) ∧ t 103 = .agg (c40 a2) ∧ t 104 = .agg (c40 a2)) (fun J hJ => ?_) ?_
        · simp [-splice, f7, f102, b_b2, ld_40_0_40]
          exact hJ _ _ _ ⟨by simp [f102], by simp [-splice, f7, f102, b_b2, ld_40_0_40], by simp [-splice, f7, f102, b_b2, ld_40_0_40]⟩
        clear f7 f102 b_b2 l_b2
        rintro t H n ⟨f102, f103, f104⟩
        obtain ⟨x28, hx28, h⟩ := bnd h
        refine Stk.cvD (g := 20) (args := [.agg (c40 a2), .agg (c40 a2)]) (args' := [.agg (c40 a2), .agg (c40 a2)]) (v := .sc (.bool x28)) [] (ok_ty_Same F _ _ _ hx28) rfl (by simp) rfl (by simp [f102, f103, f104]) rfl rfl (by simp [f102, f103, f104]) (.cons (.free (fr40 _)) (.cons (.free (fr40 _)) (.nil))) (.inl ⟨rfl, rfl⟩) (fun t' ht' => ?_)
        refine Stk.gen (fun t H n => t 102 = .sc (.bool true) ∧ t 105 = .sc (.bool x28)) ⟨by simp [ht', f102], by simp [ht']⟩ ?_
        clear f102 f103 f104 ht' t'
        rintro t H n ⟨f102, f105⟩
        refine Stk.runD 1 (fun t H n => t 106 = .sc (.bool x28)) (fun J hJ => ?_) ?_
        · simp [-splice, f102, f105]
          exact hJ _ _ _ (by simp [-splice, f102, f105])
        clear f102 f105
        rintro t H n f106
        refine Stk.onD ?_
        exact Stk.ln 0 (by decide) (hJ11 _ _ _ ⟨x28, h, f106⟩)
      · rw [hb11] at f102
        replace h := cF hb11 h
        refine Stk.runD 4 (fun t H n => t 106 = .sc (.bool false)) (fun J hJ => ?_) ?_
        · simp [-splice, f7, f102, b_b2]
          exact hJ _ _ _ (by simp [-splice, f7, f102, b_b2])
        clear f7 f102 b_b2 l_b2
        rintro t H n f106
        refine Stk.onD ?_
        exact Stk.ln 0 (by decide) (hJ11 _ _ _ ⟨false, h, f106⟩)
    clear h f7 f102 b_b2 l_b2
    rintro t H n ⟨v27, h, f106⟩
    subst hK11
    refine Stk.runD 1 (fun t H n => t 107 = .sc (.bool v27)) (fun J hJ => ?_) ?_
    · simp [-splice, f106]
      exact hJ _ _ _ (by simp [-splice, f106])
    clear f106
    rintro t H n f107
    obtain ⟨K12, hK12, h⟩ := jnd h
    refine Stk.jd 2 (fun t H n => ∃ v29 : Bool, K12 v29 = some r ∧ t 109 = .sc (.bool v29)) (fun J12 hJ12 => ?_) ?_
    · rcases Bool.eq_false_or_eq_true v27 with hb12 | hb12
      · rw [hb12] at f107
        replace h := cT hb12 h
        obtain ⟨x30, hx30, h⟩ := bnd h
        refine Stk.cvD (g := 7) (args := []) (args' := []) (v := .sc (.bool x30)) [] (ok_L07_awake F  _ hx30) rfl (by simp) rfl (by simp [f107]) rfl rfl (by simp [f107]) (.nil) (.inl ⟨rfl, rfl⟩) (fun t' ht' => ?_)
        refine Stk.gen (fun t H n => t 107 = .sc (.bool true) ∧ t 108 = .sc (.bool x30)) ⟨by simp [ht', f107], by simp [ht']⟩ ?_
        clear f107 ht' t'
        rintro t H n ⟨f107, f108⟩
        refine Stk.runD 1 (fun t H n => t 109 = .sc (.bool x30)) (fun J hJ => ?_) ?_
        · simp [-splice, f107, f108]
          exact hJ _ _ _ (by simp [-splice, f107, f108])
        clear f107 f108
        rintro t H n f109
        refine Stk.onD ?_
        exact Stk.ln 0 (by decide) (hJ12 _ _ _ ⟨x30, h, f109⟩)
      · rw [hb12] at f107
        replace h := cF hb12 h
        refine Stk.runD 2 (fun t H n => t 109 = .sc (.bool false)) (fun J hJ => ?_) ?_
        · simp [-splice, f107]
          exact hJ _ _ _ (by simp [-splice, f107])
        clear f107
        rintro t H n f109
        refine Stk.onD ?_
        exact Stk.ln 0 (by decide) (hJ12 _ _ _ ⟨false, h, f109⟩)
    clear h f107
    rintro t H n ⟨v29, h, f109⟩
    subst hK12
    refine Stk.runD 1 (fun t H n => t 10 = .sc (.bool v29)) (fun J hJ => ?_) ?_
    · simp [-splice, f109]
      exact hJ _ _ _ (by simp [-splice, f109])
    clear f109
    rintro t H n f10
    refine Stk.onD ?_
    refine Stk.rt ?_
    have hq := Option.some.inj h; subst hq
    exact (hr _ _ _ (.sc (.bool v29)) ([]) (by simp [f10]) (.inr (.inr (.free (rfl))))).1
end Go.Proofs.Ytappiofmkoelnaa.M
