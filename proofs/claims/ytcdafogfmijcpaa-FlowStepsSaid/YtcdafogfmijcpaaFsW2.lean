/-
 The functions come to them.
-/
import Derived.Test.YtcdafogfmijcpaaFsM
import Derived.Test.YtcdafogfmijcpaaFsW1
namespace Go.Proofs.Ytcdafogfmijcpaa.M
open Go.Proofs.YtcdafogfmijcpaaW.Ah Go.Proofs.Ytcdafogfmijcpaa
set_option linter.unusedVariables false
set_option linter.unusedSimpArgs false
set_option maxRecDepth 8000
attribute [local simp] T.t3 T.t4 T.t9 T.t22 T.t23 T.t24 T.t26 T.t39 T.t41 T.t44 T.t47 T.t51 T.t62 List.range List.range.loop
attribute [-simp] appendAV fillAV
theorem ok_R19_Fit (F : Nat) (a0 : api_Inst) (r : Bool) (h : R19_Fit F a0 = some r) : RunF Try.prog T.T 21 [.agg (c44 a0)] (.sc (.bool r)) := by
 rw [R19_Fit] at h
 refine RunF.z Try.func21 rfl rfl rfl rfl rfl (fun C hr => ?_)
 refine Stk.gen (fun t H n => t 0 = .agg (c44 a0)) (by simp) ?_
 rintro t H n f0
 refine Stk.sq ?_
 refine Stk.rg ?_
 refine Stk.om (mop_box T.t44 (cs := c44 a0) (by show partOk (t 0) = true; rw [f0]; rfl) (by show cellsOf (t 0) = _; rw [f0]; rfl)) (by simp [f0]) rfl (fun t' ht' => ?_)
 refine Stk.gen (fun t H n => ∃ b1, t 1 = .own b1 0 ∧ H b1 = some (.cells (c44 a0) 44) ∧ b1 < n) ⟨n, by simp [ht'], upd_same _ _ _, Nat.lt_succ_self _⟩ ?_
 clear f0 ht' t'
 rintro t H n ⟨b1, f1, b_b1, l_b1⟩
 refine Stk.run 1 (fun t H n => t 1 = .own b1 0 ∧ H b1 = some (.cells (c44 a0) 44) ∧ b1 < n) (fun J hJ => ?_) ?_
 ·simp [-splice, f1, b_b1]
  exact hJ _ _ _ ⟨by simp [f1], b_b1, l_b1⟩
 clear f1 b_b1 l_b1
 rintro t H n ⟨f1, b_b1, l_b1⟩
 refine Stk.on ?_
 refine Stk.sq ?_
 refine Stk.rg ?_
 refine Stk.run 4 (fun t H n => t 1 = .own b1 0 ∧ t 8 = .sc (.bool (a0.B == 0)) ∧ H b1 = some (.cells (c44 a0) 44) ∧ b1 < n) (fun J hJ => ?_) ?_
 ·simp [-splice, f1, b_b1, ld_44_2_3]
  exact hJ _ _ _ ⟨by simp [f1], by simp [-splice, f1, b_b1, ld_44_2_3], b_b1, l_b1⟩
 clear f1 b_b1 l_b1
 rintro t H n ⟨f1, f8, b_b1, l_b1⟩
 refine Stk.jo 4 (fun t H n => t 1 = .own b1 0 ∧ t 12 = .sc (.bool ((a0.B == 0) && (a0.C == 0))) ∧ H b1 = some (.cells (c44 a0) 44) ∧ b1 < n) (fun J1 hJ1 => ?_) ?_
 ·rcases Bool.eq_false_or_eq_true (a0.B == 0) with hb1 | hb1
  ·rw [hb1] at f8
   refine Stk.run 4 (fun t H n => t 1 = .own b1 0 ∧ t 12 = .sc (.bool (a0.C == 0)) ∧ H b1 = some (.cells (c44 a0) 44) ∧ b1 < n) (fun J hJ => ?_) ?_
   ·simp [-splice, f1, f8, b_b1, ld_44_3_3]
    exact hJ _ _ _ ⟨by simp [f1], by simp [-splice, f1, f8, b_b1, ld_44_3_3], b_b1, l_b1⟩
   clear f1 f8 b_b1 l_b1
   rintro t H n ⟨f1, f12, b_b1, l_b1⟩
   refine Stk.on ?_
   exact Stk.ln 0 (by decide) (hJ1 _ _ _ ⟨f1, f12.trans (congrArg (fun q => AV.sc (.bool q)) (by rw [hb1]; rfl)), b_b1, l_b1⟩)
  ·rw [hb1] at f8
   refine Stk.run 4 (fun t H n => t 1 = .own b1 0 ∧ t 12 = .sc (.bool false) ∧ H b1 = some (.cells (c44 a0) 44) ∧ b1 < n) (fun J hJ => ?_) ?_
   ·simp [-splice, f1, f8, b_b1]
    exact hJ _ _ _ ⟨by simp [f1], by simp [-splice, f1, f8, b_b1], b_b1, l_b1⟩
   clear f1 f8 b_b1 l_b1
   rintro t H n ⟨f1, f12, b_b1, l_b1⟩
   refine Stk.on ?_
   exact Stk.ln 0 (by decide) (hJ1 _ _ _ ⟨f1, f12.trans (congrArg (fun q => AV.sc (.bool q)) (by rw [hb1]; rfl)), b_b1, l_b1⟩)
 clear f1 f8 b_b1 l_b1
 rintro t H n ⟨f1, f12, b_b1, l_b1⟩
 refine Stk.run 1 (fun t H n => t 1 = .own b1 0 ∧ t 3 = .sc (.bool ((a0.B == 0) && (a0.C == 0))) ∧ H b1 = some (.cells (c44 a0) 44) ∧ b1 < n) (fun J hJ => ?_) ?_
 ·simp [-splice, f1, f12, b_b1]
  exact hJ _ _ _ ⟨by simp [f1], by simp [-splice, f1, f12, b_b1], b_b1, l_b1⟩
 clear f1 f12 b_b1 l_b1
 rintro t H n ⟨f1, f3, b_b1, l_b1⟩
 refine Stk.on ?_
 refine Stk.sq ?_
 refine Stk.rg ?_
 refine Stk.run 4 (fun t H n => t 1 = .own b1 0 ∧ t 3 = .sc (.bool ((a0.B == 0) && (a0.C == 0))) ∧ t 4 = .sc (.bool (a0.C == 0)) ∧ H b1 = some (.cells (c44 a0) 44) ∧ b1 < n) (fun J hJ => ?_) ?_
 ·simp [-splice, f1, f3, b_b1, ld_44_3_3]
  exact hJ _ _ _ ⟨by simp [f1], by simp [f3], by simp [-splice, f1, f3, b_b1, ld_44_3_3], b_b1, l_b1⟩
 clear f1 f3 b_b1 l_b1
 rintro t H n ⟨f1, f3, f4, b_b1, l_b1⟩
 refine Stk.on ?_
 refine Stk.sq ?_
 refine Stk.sq ?_
 refine Stk.rg ?_
 refine Stk.run 2 (fun t H n => t 1 = .own b1 0 ∧ t 3 = .sc (.bool ((a0.B == 0) && (a0.C == 0))) ∧ t 4 = .sc (.bool (a0.C == 0)) ∧ t 17 = .sc (.int .i64 a0.Op) ∧ H b1 = some (.cells (c44 a0) 44) ∧ b1 < n) (fun J hJ => ?_) ?_
 ·simp [-splice, f1, f3, f4, b_b1, ld_44_0_3]
  exact hJ _ _ _ ⟨by simp [f1], by simp [f3], by simp [f4], by simp [-splice, f1, f3, f4, b_b1, ld_44_0_3], b_b1, l_b1⟩
 clear f1 f3 f4 b_b1 l_b1
 rintro t H n ⟨f1, f3, f4, f17, b_b1, l_b1⟩
 refine Stk.on ?_
 refine Stk.bk ?_
 refine Stk.sq ?_
 refine Stk.rg ?_
 refine Stk.run 2 (fun t H n => t 1 = .own b1 0 ∧ t 3 = .sc (.bool ((a0.B == 0) && (a0.C == 0))) ∧ t 4 = .sc (.bool (a0.C == 0)) ∧ t 17 = .sc (.int .i64 a0.Op) ∧ t 18 = .sc (.bool (a0.Op == 0)) ∧ H b1 = some (.cells (c44 a0) 44) ∧ b1 < n) (fun J hJ => ?_) ?_
 ·simp [-splice, f1, f3, f4, f17, b_b1]
  exact hJ _ _ _ ⟨by simp [f1], by simp [f3], by simp [f4], by simp [f17], by simp [-splice, f1, f3, f4, f17, b_b1], b_b1, l_b1⟩
 clear f1 f3 f4 f17 b_b1 l_b1
 rintro t H n ⟨f1, f3, f4, f17, f18, b_b1, l_b1⟩
 refine Stk.on ?_
 refine Stk.cond (a0.Op == 0) (by exact f18) (fun hb2 => ?_) (fun hb2 => ?_)
 ·have h := cT hb2 h
  refine Stk.sq ?_
  refine Stk.rg ?_
  refine Stk.run 2 (fun t H n => t 1 = .own b1 0 ∧ t 21 = .sc (.bool ((a0.B == 0) && (a0.C == 0))) ∧ H b1 = some (.cells (c44 a0) 44) ∧ b1 < n) (fun J hJ => ?_) ?_
  ·simp [-splice, f1, f3, f4, f17, f18, b_b1]
   exact hJ _ _ _ ⟨by simp [f1], by simp [-splice, f1, f3, f4, f17, f18, b_b1], b_b1, l_b1⟩
  clear f1 f3 f4 f17 f18 b_b1 l_b1
  rintro t H n ⟨f1, f21, b_b1, l_b1⟩
  obtain ⟨K2, hK2, h⟩ := jnd h
  refine Stk.jo 4 (fun t H n => ∃ v3 : Bool, K2 v3 = some r ∧ t 25 = .sc (.bool v3)) (fun J2 hJ2 => ?_) ?_
  ·rcases Bool.eq_false_or_eq_true ((a0.B == 0) && (a0.C == 0)) with hb2 | hb2
   ·rw [hb2] at f21
    replace h := cT hb2 h
    refine Stk.run 2 (fun t H n => t 21 = .sc (.bool true) ∧ t 23 = .sc (.int .i64 a0.A)) (fun J hJ => ?_) ?_
    ·simp [-splice, f1, f21, b_b1, ld_44_1_3]
     exact hJ _ _ _ ⟨by simp [f21], by simp [-splice, f1, f21, b_b1, ld_44_1_3]⟩
    clear f1 f21 b_b1 l_b1
    rintro t H n ⟨f21, f23⟩
    obtain ⟨x4, hx4, h⟩ := bnd h
    refine Stk.cv (g := 35) (args := [.sc (.int .i64 a0.A)]) (args' := [.sc (.int .i64 a0.A)]) (v := .sc (.bool x4)) [] (ok_R19_number F _ _ hx4) (by simp [f21, f23]) rfl rfl (by simp [f21, f23]) (.cons (.free (rfl)) (.nil)) (.inl ⟨rfl, rfl⟩) (fun t' ht' => ?_)
    refine Stk.gen (fun t H n => t 21 = .sc (.bool true) ∧ t 24 = .sc (.bool x4)) ⟨by simp [ht', f21], by simp [ht']⟩ ?_
    clear f21 f23 ht' t'
    rintro t H n ⟨f21, f24⟩
    refine Stk.run 1 (fun t H n => t 25 = .sc (.bool x4)) (fun J hJ => ?_) ?_
    ·simp [-splice, f21, f24]
     exact hJ _ _ _ (by simp [-splice, f21, f24])
    clear f21 f24
    rintro t H n f25
    refine Stk.on ?_
    exact Stk.ln 0 (by decide) (hJ2 _ _ _ ⟨x4, h, f25⟩)
   ·rw [hb2] at f21
    replace h := cF hb2 h
    refine Stk.run 4 (fun t H n => t 25 = .sc (.bool false)) (fun J hJ => ?_) ?_
    ·simp [-splice, f1, f21, b_b1]
     exact hJ _ _ _ (by simp [-splice, f1, f21, b_b1])
    clear f1 f21 b_b1 l_b1
    rintro t H n f25
    refine Stk.on ?_
    exact Stk.ln 0 (by decide) (hJ2 _ _ _ ⟨false, h, f25⟩)
  clear h f1 f21 b_b1 l_b1
  rintro t H n ⟨v3, h, f25⟩
  subst hK2
  refine Stk.run 1 (fun t H n => t 2 = .sc (.bool v3)) (fun J hJ => ?_) ?_
  ·simp [-splice, f25]
   exact hJ _ _ _ (by simp [-splice, f25])
  clear f25
  rintro t H n f2
  refine Stk.on ?_
  refine Stk.rt ?_
  have hq := Option.some.inj h; subst hq
  exact (hr _ _ _ (.sc (.bool v3)) ([]) (by simp [f2]) (.inr (.inr (.free (rfl))))).1
 ·have h := cF hb2 h
  refine Stk.sq ?_
  refine Stk.rg ?_
  refine Stk.run 2 (fun t H n => t 1 = .own b1 0 ∧ t 3 = .sc (.bool ((a0.B == 0) && (a0.C == 0))) ∧ t 4 = .sc (.bool (a0.C == 0)) ∧ t 17 = .sc (.int .i64 a0.Op) ∧ t 26 = .sc (.bool (a0.Op == 1)) ∧ H b1 = some (.cells (c44 a0) 44) ∧ b1 < n) (fun J hJ => ?_) ?_
  ·simp [-splice, f1, f3, f4, f17, f18, b_b1]
   exact hJ _ _ _ ⟨by simp [f1], by simp [f3], by simp [f4], by simp [f17], by simp [-splice, f1, f3, f4, f17, f18, b_b1], b_b1, l_b1⟩
  clear f1 f3 f4 f17 f18 b_b1 l_b1
  rintro t H n ⟨f1, f3, f4, f17, f26, b_b1, l_b1⟩
  refine Stk.on ?_
  refine Stk.cond (a0.Op == 1) (by exact f26) (fun hb5 => ?_) (fun hb5 => ?_)
  ·have h := cT hb5 h
   refine Stk.sq ?_
   refine Stk.rg ?_
   refine Stk.run 2 (fun t H n => t 1 = .own b1 0 ∧ t 29 = .sc (.bool ((a0.B == 0) && (a0.C == 0))) ∧ H b1 = some (.cells (c44 a0) 44) ∧ b1 < n) (fun J hJ => ?_) ?_
   ·simp [-splice, f1, f3, f4, f17, f26, b_b1]
    exact hJ _ _ _ ⟨by simp [f1], by simp [-splice, f1, f3, f4, f17, f26, b_b1], b_b1, l_b1⟩
   clear f1 f3 f4 f17 f26 b_b1 l_b1
   rintro t H n ⟨f1, f29, b_b1, l_b1⟩
   obtain ⟨K3, hK3, h⟩ := jnd h
   refine Stk.jo 4 (fun t H n => ∃ v6 : Bool, K3 v6 = some r ∧ t 33 = .sc (.bool v6)) (fun J3 hJ3 => ?_) ?_
   ·rcases Bool.eq_false_or_eq_true ((a0.B == 0) && (a0.C == 0)) with hb3 | hb3
    ·rw [hb3] at f29
     replace h := cT hb3 h
     refine Stk.run 2 (fun t H n => t 29 = .sc (.bool true) ∧ t 31 = .sc (.int .i64 a0.A)) (fun J hJ => ?_) ?_
     ·simp [-splice, f1, f29, b_b1, ld_44_1_3]
      exact hJ _ _ _ ⟨by simp [f29], by simp [-splice, f1, f29, b_b1, ld_44_1_3]⟩
     clear f1 f29 b_b1 l_b1
     rintro t H n ⟨f29, f31⟩
     obtain ⟨x7, hx7, h⟩ := bnd h
     refine Stk.cv (g := 36) (args := [.sc (.int .i64 a0.A), .sc (.int .i64 4096)]) (args' := [.sc (.int .i64 a0.A), .sc (.int .i64 4096)]) (v := .sc (.bool x7)) [] (ok_R19_below F _ _ _ hx7) (by simp [f29, f31]) rfl rfl (by simp [f29, f31]) (.cons (.free (rfl)) (.cons (.free (rfl)) (.nil))) (.inl ⟨rfl, rfl⟩) (fun t' ht' => ?_)
     refine Stk.gen (fun t H n => t 29 = .sc (.bool true) ∧ t 32 = .sc (.bool x7)) ⟨by simp [ht', f29], by simp [ht']⟩ ?_
     clear f29 f31 ht' t'
     rintro t H n ⟨f29, f32⟩
     refine Stk.run 1 (fun t H n => t 33 = .sc (.bool x7)) (fun J hJ => ?_) ?_
     ·simp [-splice, f29, f32]
      exact hJ _ _ _ (by simp [-splice, f29, f32])
     clear f29 f32
     rintro t H n f33
     refine Stk.on ?_
     exact Stk.ln 0 (by decide) (hJ3 _ _ _ ⟨x7, h, f33⟩)
    ·rw [hb3] at f29
     replace h := cF hb3 h
     refine Stk.run 4 (fun t H n => t 33 = .sc (.bool false)) (fun J hJ => ?_) ?_
     ·simp [-splice, f1, f29, b_b1]
      exact hJ _ _ _ (by simp [-splice, f1, f29, b_b1])
     clear f1 f29 b_b1 l_b1
     rintro t H n f33
     refine Stk.on ?_
     exact Stk.ln 0 (by decide) (hJ3 _ _ _ ⟨false, h, f33⟩)
   clear h f1 f29 b_b1 l_b1
   rintro t H n ⟨v6, h, f33⟩
   subst hK3
   refine Stk.run 1 (fun t H n => t 2 = .sc (.bool v6)) (fun J hJ => ?_) ?_
   ·simp [-splice, f33]
    exact hJ _ _ _ (by simp [-splice, f33])
   clear f33
   rintro t H n f2
   refine Stk.on ?_
   refine Stk.rt ?_
   have hq := Option.some.inj h; subst hq
   exact (hr _ _ _ (.sc (.bool v6)) ([]) (by simp [f2]) (.inr (.inr (.free (rfl))))).1
  ·have h := cF hb5 h
   refine Stk.sq ?_
   refine Stk.sq ?_
   refine Stk.rg ?_
   refine Stk.run 2 (fun t H n => t 1 = .own b1 0 ∧ t 3 = .sc (.bool ((a0.B == 0) && (a0.C == 0))) ∧ t 4 = .sc (.bool (a0.C == 0)) ∧ t 17 = .sc (.int .i64 a0.Op) ∧ t 34 = .sc (.bool (a0.Op == 2)) ∧ H b1 = some (.cells (c44 a0) 44) ∧ b1 < n) (fun J hJ => ?_) ?_
   ·simp [-splice, f1, f3, f4, f17, f26, b_b1]
    exact hJ _ _ _ ⟨by simp [f1], by simp [f3], by simp [f4], by simp [f17], by simp [-splice, f1, f3, f4, f17, f26, b_b1], b_b1, l_b1⟩
   clear f1 f3 f4 f17 f26 b_b1 l_b1
   rintro t H n ⟨f1, f3, f4, f17, f34, b_b1, l_b1⟩
   refine Stk.on ?_
   obtain ⟨K4, hK4, h⟩ := jnd h
   refine Stk.jn (fun t H n => ∃ v8 : Bool, K4 v8 = some r ∧ t 1 = .own b1 0 ∧ t 3 = .sc (.bool ((a0.B == 0) && (a0.C == 0))) ∧ t 4 = .sc (.bool (a0.C == 0)) ∧ t 17 = .sc (.int .i64 a0.Op) ∧ t 34 = .sc (.bool v8) ∧ H b1 = some (.cells (c44 a0) 44) ∧ b1 < n) trivial (fun J4 hJ4 => ?_) ?_
   ·skip
    refine Stk.cond (a0.Op == 2) (by exact f34) (fun hb9 => ?_) (fun hb9 => ?_)
    ·have h := cT hb9 h
     refine Stk.sk ?_
     exact Stk.ln 0 (by decide) (hJ4 _ _ _ ⟨(a0.Op == 2), h, f1, f3, f4, f17, f34, b_b1, l_b1⟩)
    ·have h := cF hb9 h
     refine Stk.rg ?_
     refine Stk.run 2 (fun t H n => t 1 = .own b1 0 ∧ t 3 = .sc (.bool ((a0.B == 0) && (a0.C == 0))) ∧ t 4 = .sc (.bool (a0.C == 0)) ∧ t 17 = .sc (.int .i64 a0.Op) ∧ t 34 = .sc (.bool (a0.Op == 14)) ∧ H b1 = some (.cells (c44 a0) 44) ∧ b1 < n) (fun J hJ => ?_) ?_
     ·simp [-splice, f1, f3, f4, f17, f34, b_b1]
      exact hJ _ _ _ ⟨by simp [f1], by simp [f3], by simp [f4], by simp [f17], by simp [-splice, f1, f3, f4, f17, f34, b_b1], b_b1, l_b1⟩
     clear f1 f3 f4 f17 f34 b_b1 l_b1
     rintro t H n ⟨f1, f3, f4, f17, f34, b_b1, l_b1⟩
     refine Stk.on ?_
     exact Stk.ln 0 (by decide) (hJ4 _ _ _ ⟨(a0.Op == 14), h, f1, f3, f4, f17, f34, b_b1, l_b1⟩)
   clear h f1 f3 f4 f17 f34 b_b1 l_b1
   rintro t H n ⟨v8, h, f1, f3, f4, f17, f34, b_b1, l_b1⟩
   subst hK4
   refine Stk.cond v8 (by exact f34) (fun hb10 => ?_) (fun hb10 => ?_)
   ·have h := cT hb10 h
    refine Stk.sq ?_
    refine Stk.rg ?_
    refine Stk.run 2 (fun t H n => t 1 = .own b1 0 ∧ t 38 = .sc (.bool ((a0.B == 0) && (a0.C == 0))) ∧ H b1 = some (.cells (c44 a0) 44) ∧ b1 < n) (fun J hJ => ?_) ?_
    ·simp [-splice, f1, f3, f4, f17, f34, b_b1]
     exact hJ _ _ _ ⟨by simp [f1], by simp [-splice, f1, f3, f4, f17, f34, b_b1], b_b1, l_b1⟩
    clear f1 f3 f4 f17 f34 b_b1 l_b1
    rintro t H n ⟨f1, f38, b_b1, l_b1⟩
    obtain ⟨K5, hK5, h⟩ := jnd h
    refine Stk.jo 4 (fun t H n => ∃ v11 : Bool, K5 v11 = some r ∧ t 42 = .sc (.bool v11)) (fun J5 hJ5 => ?_) ?_
    ·rcases Bool.eq_false_or_eq_true ((a0.B == 0) && (a0.C == 0)) with hb5 | hb5
     ·rw [hb5] at f38
      replace h := cT hb5 h
      refine Stk.run 2 (fun t H n => t 38 = .sc (.bool true) ∧ t 40 = .sc (.int .i64 a0.A)) (fun J hJ => ?_) ?_
      ·simp [-splice, f1, f38, b_b1, ld_44_1_3]
       exact hJ _ _ _ ⟨by simp [f38], by simp [-splice, f1, f38, b_b1, ld_44_1_3]⟩
      clear f1 f38 b_b1 l_b1
      rintro t H n ⟨f38, f40⟩
      obtain ⟨x12, hx12, h⟩ := bnd h
      refine Stk.cv (g := 36) (args := [.sc (.int .i64 a0.A), .sc (.int .i64 8192)]) (args' := [.sc (.int .i64 a0.A), .sc (.int .i64 8192)]) (v := .sc (.bool x12)) [] (ok_R19_below F _ _ _ hx12) (by simp [f38, f40]) rfl rfl (by simp [f38, f40]) (.cons (.free (rfl)) (.cons (.free (rfl)) (.nil))) (.inl ⟨rfl, rfl⟩) (fun t' ht' => ?_)
      refine Stk.gen (fun t H n => t 38 = .sc (.bool true) ∧ t 41 = .sc (.bool x12)) ⟨by simp [ht', f38], by simp [ht']⟩ ?_
      clear f38 f40 ht' t'
      rintro t H n ⟨f38, f41⟩
      refine Stk.run 1 (fun t H n => t 42 = .sc (.bool x12)) (fun J hJ => ?_) ?_
      ·simp [-splice, f38, f41]
       exact hJ _ _ _ (by simp [-splice, f38, f41])
      clear f38 f41
      rintro t H n f42
      refine Stk.on ?_
      exact Stk.ln 0 (by decide) (hJ5 _ _ _ ⟨x12, h, f42⟩)
     ·rw [hb5] at f38
      replace h := cF hb5 h
      refine Stk.run 4 (fun t H n => t 42 = .sc (.bool false)) (fun J hJ => ?_) ?_
      ·simp [-splice, f1, f38, b_b1]
       exact hJ _ _ _ (by simp [-splice, f1, f38, b_b1])
      clear f1 f38 b_b1 l_b1
      rintro t H n f42
      refine Stk.on ?_
      exact Stk.ln 0 (by decide) (hJ5 _ _ _ ⟨false, h, f42⟩)
    clear h f1 f38 b_b1 l_b1
    rintro t H n ⟨v11, h, f42⟩
    subst hK5
    refine Stk.run 1 (fun t H n => t 2 = .sc (.bool v11)) (fun J hJ => ?_) ?_
    ·simp [-splice, f42]
     exact hJ _ _ _ (by simp [-splice, f42])
    clear f42
    rintro t H n f2
    refine Stk.on ?_
    refine Stk.rt ?_
    have hq := Option.some.inj h; subst hq
    exact (hr _ _ _ (.sc (.bool v11)) ([]) (by simp [f2]) (.inr (.inr (.free (rfl))))).1
   ·have h := cF hb10 h
    refine Stk.sq ?_
    refine Stk.rg ?_
    refine Stk.run 2 (fun t H n => t 1 = .own b1 0 ∧ t 3 = .sc (.bool ((a0.B == 0) && (a0.C == 0))) ∧ t 4 = .sc (.bool (a0.C == 0)) ∧ t 17 = .sc (.int .i64 a0.Op) ∧ t 43 = .sc (.bool (a0.Op == 3)) ∧ H b1 = some (.cells (c44 a0) 44) ∧ b1 < n) (fun J hJ => ?_) ?_
    ·simp [-splice, f1, f3, f4, f17, f34, b_b1]
     exact hJ _ _ _ ⟨by simp [f1], by simp [f3], by simp [f4], by simp [f17], by simp [-splice, f1, f3, f4, f17, f34, b_b1], b_b1, l_b1⟩
    clear f1 f3 f4 f17 f34 b_b1 l_b1
    rintro t H n ⟨f1, f3, f4, f17, f43, b_b1, l_b1⟩
    refine Stk.on ?_
    refine Stk.cond (a0.Op == 3) (by exact f43) (fun hb13 => ?_) (fun hb13 => ?_)
    ·have h := cT hb13 h
     refine Stk.sq ?_
     refine Stk.rg ?_
     refine Stk.run 2 (fun t H n => t 1 = .own b1 0 ∧ t 46 = .sc (.bool (a0.C == 0)) ∧ H b1 = some (.cells (c44 a0) 44) ∧ b1 < n) (fun J hJ => ?_) ?_
     ·simp [-splice, f1, f3, f4, f17, f43, b_b1]
      exact hJ _ _ _ ⟨by simp [f1], by simp [-splice, f1, f3, f4, f17, f43, b_b1], b_b1, l_b1⟩
     clear f1 f3 f4 f17 f43 b_b1 l_b1
     rintro t H n ⟨f1, f46, b_b1, l_b1⟩
     obtain ⟨K6, hK6, h⟩ := jnd h
     refine Stk.jo 4 (fun t H n => ∃ v14 : Bool, K6 v14 = some r ∧ t 1 = .own b1 0 ∧ t 50 = .sc (.bool v14) ∧ H b1 = some (.cells (c44 a0) 44) ∧ b1 < n) (fun J6 hJ6 => ?_) ?_
     ·rcases Bool.eq_false_or_eq_true (a0.C == 0) with hb6 | hb6
      ·rw [hb6] at f46
       replace h := cT hb6 h
       refine Stk.run 2 (fun t H n => t 1 = .own b1 0 ∧ t 46 = .sc (.bool true) ∧ t 48 = .sc (.int .i64 a0.A) ∧ H b1 = some (.cells (c44 a0) 44) ∧ b1 < n) (fun J hJ => ?_) ?_
       ·simp [-splice, f1, f46, b_b1, ld_44_1_3]
        exact hJ _ _ _ ⟨by simp [f1], by simp [f46], by simp [-splice, f1, f46, b_b1, ld_44_1_3], b_b1, l_b1⟩
       clear f1 f46 b_b1 l_b1
       rintro t H n ⟨f1, f46, f48, b_b1, l_b1⟩
       obtain ⟨x15, hx15, h⟩ := bnd h
       refine Stk.cv (g := 36) (args := [.sc (.int .i64 a0.A), .sc (.int .i64 16)]) (args' := [.sc (.int .i64 a0.A), .sc (.int .i64 16)]) (v := .sc (.bool x15)) [] (ok_R19_below F _ _ _ hx15) (by simp [f1, f46, f48]) rfl rfl (by simp [f1, f46, f48]) (.cons (.free (rfl)) (.cons (.free (rfl)) (.nil))) (.inl ⟨rfl, rfl⟩) (fun t' ht' => ?_)
       refine Stk.gen (fun t H n => t 1 = .own b1 0 ∧ t 46 = .sc (.bool true) ∧ t 49 = .sc (.bool x15) ∧ H b1 = some (.cells (c44 a0) 44) ∧ b1 < n) ⟨by simp [ht', f1], by simp [ht', f46], by simp [ht'], b_b1, l_b1⟩ ?_
       clear f1 f46 f48 b_b1 l_b1 ht' t'
       rintro t H n ⟨f1, f46, f49, b_b1, l_b1⟩
       refine Stk.run 1 (fun t H n => t 1 = .own b1 0 ∧ t 50 = .sc (.bool x15) ∧ H b1 = some (.cells (c44 a0) 44) ∧ b1 < n) (fun J hJ => ?_) ?_
       ·simp [-splice, f1, f46, f49, b_b1]
        exact hJ _ _ _ ⟨by simp [f1], by simp [-splice, f1, f46, f49, b_b1], b_b1, l_b1⟩
       clear f1 f46 f49 b_b1 l_b1
       rintro t H n ⟨f1, f50, b_b1, l_b1⟩
       refine Stk.on ?_
       exact Stk.ln 0 (by decide) (hJ6 _ _ _ ⟨x15, h, f1, f50, b_b1, l_b1⟩)
      ·rw [hb6] at f46
       replace h := cF hb6 h
       refine Stk.run 4 (fun t H n => t 1 = .own b1 0 ∧ t 50 = .sc (.bool false) ∧ H b1 = some (.cells (c44 a0) 44) ∧ b1 < n) (fun J hJ => ?_) ?_
       ·simp [-splice, f1, f46, b_b1]
        exact hJ _ _ _ ⟨by simp [f1], by simp [-splice, f1, f46, b_b1], b_b1, l_b1⟩
       clear f1 f46 b_b1 l_b1
       rintro t H n ⟨f1, f50, b_b1, l_b1⟩
       refine Stk.on ?_
       exact Stk.ln 0 (by decide) (hJ6 _ _ _ ⟨false, h, f1, f50, b_b1, l_b1⟩)
     clear h f1 f46 b_b1 l_b1
     rintro t H n ⟨v14, h, f1, f50, b_b1, l_b1⟩
     subst hK6
     refine Stk.run 1 (fun t H n => t 1 = .own b1 0 ∧ t 51 = .sc (.bool v14) ∧ H b1 = some (.cells (c44 a0) 44) ∧ b1 < n) (fun J hJ => ?_) ?_
     ·simp [-splice, f1, f50, b_b1]
      exact hJ _ _ _ ⟨by simp [f1], by simp [-splice, f1, f50, b_b1], b_b1, l_b1⟩
     clear f1 f50 b_b1 l_b1
     rintro t H n ⟨f1, f51, b_b1, l_b1⟩
     refine Stk.jo 4 (fun t H n => t 1 = .own b1 0 ∧ t 55 = .sc (.bool (v14 && (decide (1 ≤ a0.B)))) ∧ H b1 = some (.cells (c44 a0) 44) ∧ b1 < n) (fun J7 hJ7 => ?_) ?_
     ·rcases Bool.eq_false_or_eq_true v14 with hb7 | hb7
      ·rw [hb7] at f51
       refine Stk.run 4 (fun t H n => t 1 = .own b1 0 ∧ t 55 = .sc (.bool (decide (1 ≤ a0.B))) ∧ H b1 = some (.cells (c44 a0) 44) ∧ b1 < n) (fun J hJ => ?_) ?_
       ·simp [-splice, f1, f51, b_b1, ld_44_2_3]
        exact hJ _ _ _ ⟨by simp [f1], by simp [-splice, f1, f51, b_b1, ld_44_2_3], b_b1, l_b1⟩
       clear f1 f51 b_b1 l_b1
       rintro t H n ⟨f1, f55, b_b1, l_b1⟩
       refine Stk.on ?_
       exact Stk.ln 0 (by decide) (hJ7 _ _ _ ⟨f1, f55.trans (congrArg (fun q => AV.sc (.bool q)) (by rw [hb7]; rfl)), b_b1, l_b1⟩)
      ·rw [hb7] at f51
       refine Stk.run 4 (fun t H n => t 1 = .own b1 0 ∧ t 55 = .sc (.bool false) ∧ H b1 = some (.cells (c44 a0) 44) ∧ b1 < n) (fun J hJ => ?_) ?_
       ·simp [-splice, f1, f51, b_b1]
        exact hJ _ _ _ ⟨by simp [f1], by simp [-splice, f1, f51, b_b1], b_b1, l_b1⟩
       clear f1 f51 b_b1 l_b1
       rintro t H n ⟨f1, f55, b_b1, l_b1⟩
       refine Stk.on ?_
       exact Stk.ln 0 (by decide) (hJ7 _ _ _ ⟨f1, f55.trans (congrArg (fun q => AV.sc (.bool q)) (by rw [hb7]; rfl)), b_b1, l_b1⟩)
     clear f1 f51 b_b1 l_b1
     rintro t H n ⟨f1, f55, b_b1, l_b1⟩
     refine Stk.run 1 (fun t H n => t 1 = .own b1 0 ∧ t 56 = .sc (.bool (v14 && (decide (1 ≤ a0.B)))) ∧ H b1 = some (.cells (c44 a0) 44) ∧ b1 < n) (fun J hJ => ?_) ?_
     ·simp [-splice, f1, f55, b_b1]
      exact hJ _ _ _ ⟨by simp [f1], by simp [-splice, f1, f55, b_b1], b_b1, l_b1⟩
     clear f1 f55 b_b1 l_b1
     rintro t H n ⟨f1, f56, b_b1, l_b1⟩
     refine Stk.jo 4 (fun t H n => t 60 = .sc (.bool ((v14 && (decide (1 ≤ a0.B))) && (decide (a0.B ≤ 6))))) (fun J8 hJ8 => ?_) ?_
     ·rcases Bool.eq_false_or_eq_true (v14 && (decide (1 ≤ a0.B))) with hb8 | hb8
      ·rw [hb8] at f56
       refine Stk.run 4 (fun t H n => t 60 = .sc (.bool (decide (a0.B ≤ 6)))) (fun J hJ => ?_) ?_
       ·simp [-splice, f1, f56, b_b1, ld_44_2_3]
        exact hJ _ _ _ (by simp [-splice, f1, f56, b_b1, ld_44_2_3])
       clear f1 f56 b_b1 l_b1
       rintro t H n f60
       refine Stk.on ?_
       exact Stk.ln 0 (by decide) (hJ8 _ _ _ (f60.trans (congrArg (fun q => AV.sc (.bool q)) (by rw [hb8]; rfl))))
      ·rw [hb8] at f56
       refine Stk.run 4 (fun t H n => t 60 = .sc (.bool false)) (fun J hJ => ?_) ?_
       ·simp [-splice, f1, f56, b_b1]
        exact hJ _ _ _ (by simp [-splice, f1, f56, b_b1])
       clear f1 f56 b_b1 l_b1
       rintro t H n f60
       refine Stk.on ?_
       exact Stk.ln 0 (by decide) (hJ8 _ _ _ (f60.trans (congrArg (fun q => AV.sc (.bool q)) (by rw [hb8]; rfl))))
     clear f1 f56 b_b1 l_b1
     rintro t H n f60
     refine Stk.run 1 (fun t H n => t 2 = .sc (.bool ((v14 && (decide (1 ≤ a0.B))) && (decide (a0.B ≤ 6))))) (fun J hJ => ?_) ?_
     ·simp [-splice, f60]
      exact hJ _ _ _ (by simp [-splice, f60])
     clear f60
     rintro t H n f2
     refine Stk.on ?_
     refine Stk.rt ?_
     have hq := Option.some.inj h; subst hq
     exact (hr _ _ _ (.sc (.bool ((v14 && (decide (1 ≤ a0.B))) && (decide (a0.B ≤ 6))))) ([]) (by simp [f2]) (.inr (.inr (.free (rfl))))).1
    ·have h := cF hb13 h
     refine Stk.sq ?_
     refine Stk.rg ?_
     refine Stk.run 2 (fun t H n => t 1 = .own b1 0 ∧ t 3 = .sc (.bool ((a0.B == 0) && (a0.C == 0))) ∧ t 4 = .sc (.bool (a0.C == 0)) ∧ t 17 = .sc (.int .i64 a0.Op) ∧ t 61 = .sc (.bool (a0.Op == 4)) ∧ H b1 = some (.cells (c44 a0) 44) ∧ b1 < n) (fun J hJ => ?_) ?_
     ·simp [-splice, f1, f3, f4, f17, f43, b_b1]
      exact hJ _ _ _ ⟨by simp [f1], by simp [f3], by simp [f4], by simp [f17], by simp [-splice, f1, f3, f4, f17, f43, b_b1], b_b1, l_b1⟩
     clear f1 f3 f4 f17 f43 b_b1 l_b1
     rintro t H n ⟨f1, f3, f4, f17, f61, b_b1, l_b1⟩
     refine Stk.on ?_
     refine Stk.cond (a0.Op == 4) (by exact f61) (fun hb16 => ?_) (fun hb16 => ?_)
     ·have h := cT hb16 h
      refine Stk.sq ?_
      refine Stk.rg ?_
      refine Stk.run 2 (fun t H n => t 1 = .own b1 0 ∧ t 64 = .sc (.bool (a0.C == 0)) ∧ H b1 = some (.cells (c44 a0) 44) ∧ b1 < n) (fun J hJ => ?_) ?_
      ·simp [-splice, f1, f3, f4, f17, f61, b_b1]
       exact hJ _ _ _ ⟨by simp [f1], by simp [-splice, f1, f3, f4, f17, f61, b_b1], b_b1, l_b1⟩
      clear f1 f3 f4 f17 f61 b_b1 l_b1
      rintro t H n ⟨f1, f64, b_b1, l_b1⟩
      obtain ⟨K9, hK9, h⟩ := jnd h
      refine Stk.jo 4 (fun t H n => ∃ v17 : Bool, K9 v17 = some r ∧ t 1 = .own b1 0 ∧ t 68 = .sc (.bool v17) ∧ H b1 = some (.cells (c44 a0) 44) ∧ b1 < n) (fun J9 hJ9 => ?_) ?_
      ·rcases Bool.eq_false_or_eq_true (a0.C == 0) with hb9 | hb9
       ·rw [hb9] at f64
        replace h := cT hb9 h
        refine Stk.run 2 (fun t H n => t 1 = .own b1 0 ∧ t 64 = .sc (.bool true) ∧ t 66 = .sc (.int .i64 a0.A) ∧ H b1 = some (.cells (c44 a0) 44) ∧ b1 < n) (fun J hJ => ?_) ?_
        ·simp [-splice, f1, f64, b_b1, ld_44_1_3]
         exact hJ _ _ _ ⟨by simp [f1], by simp [f64], by simp [-splice, f1, f64, b_b1, ld_44_1_3], b_b1, l_b1⟩
        clear f1 f64 b_b1 l_b1
        rintro t H n ⟨f1, f64, f66, b_b1, l_b1⟩
        obtain ⟨x18, hx18, h⟩ := bnd h
        refine Stk.cv (g := 36) (args := [.sc (.int .i64 a0.A), .sc (.int .i64 8192)]) (args' := [.sc (.int .i64 a0.A), .sc (.int .i64 8192)]) (v := .sc (.bool x18)) [] (ok_R19_below F _ _ _ hx18) (by simp [f1, f64, f66]) rfl rfl (by simp [f1, f64, f66]) (.cons (.free (rfl)) (.cons (.free (rfl)) (.nil))) (.inl ⟨rfl, rfl⟩) (fun t' ht' => ?_)
        refine Stk.gen (fun t H n => t 1 = .own b1 0 ∧ t 64 = .sc (.bool true) ∧ t 67 = .sc (.bool x18) ∧ H b1 = some (.cells (c44 a0) 44) ∧ b1 < n) ⟨by simp [ht', f1], by simp [ht', f64], by simp [ht'], b_b1, l_b1⟩ ?_
        clear f1 f64 f66 b_b1 l_b1 ht' t'
        rintro t H n ⟨f1, f64, f67, b_b1, l_b1⟩
        refine Stk.run 1 (fun t H n => t 1 = .own b1 0 ∧ t 68 = .sc (.bool x18) ∧ H b1 = some (.cells (c44 a0) 44) ∧ b1 < n) (fun J hJ => ?_) ?_
        ·simp [-splice, f1, f64, f67, b_b1]
         exact hJ _ _ _ ⟨by simp [f1], by simp [-splice, f1, f64, f67, b_b1], b_b1, l_b1⟩
        clear f1 f64 f67 b_b1 l_b1
        rintro t H n ⟨f1, f68, b_b1, l_b1⟩
        refine Stk.on ?_
        exact Stk.ln 0 (by decide) (hJ9 _ _ _ ⟨x18, h, f1, f68, b_b1, l_b1⟩)
       ·rw [hb9] at f64
        replace h := cF hb9 h
        refine Stk.run 4 (fun t H n => t 1 = .own b1 0 ∧ t 68 = .sc (.bool false) ∧ H b1 = some (.cells (c44 a0) 44) ∧ b1 < n) (fun J hJ => ?_) ?_
        ·simp [-splice, f1, f64, b_b1]
         exact hJ _ _ _ ⟨by simp [f1], by simp [-splice, f1, f64, b_b1], b_b1, l_b1⟩
        clear f1 f64 b_b1 l_b1
        rintro t H n ⟨f1, f68, b_b1, l_b1⟩
        refine Stk.on ?_
        exact Stk.ln 0 (by decide) (hJ9 _ _ _ ⟨false, h, f1, f68, b_b1, l_b1⟩)
      clear h f1 f64 b_b1 l_b1
      rintro t H n ⟨v17, h, f1, f68, b_b1, l_b1⟩
      subst hK9
      refine Stk.run 1 (fun t H n => t 1 = .own b1 0 ∧ t 69 = .sc (.bool v17) ∧ H b1 = some (.cells (c44 a0) 44) ∧ b1 < n) (fun J hJ => ?_) ?_
      ·simp [-splice, f1, f68, b_b1]
       exact hJ _ _ _ ⟨by simp [f1], by simp [-splice, f1, f68, b_b1], b_b1, l_b1⟩
      clear f1 f68 b_b1 l_b1
      rintro t H n ⟨f1, f69, b_b1, l_b1⟩
      obtain ⟨K10, hK10, h⟩ := jnd h
      refine Stk.jo 4 (fun t H n => ∃ v19 : Bool, K10 v19 = some r ∧ t 73 = .sc (.bool v19)) (fun J10 hJ10 => ?_) ?_
      ·rcases Bool.eq_false_or_eq_true v17 with hb10 | hb10
       ·rw [hb10] at f69
        replace h := cT hb10 h
        refine Stk.run 2 (fun t H n => t 69 = .sc (.bool true) ∧ t 71 = .sc (.int .i64 a0.B)) (fun J hJ => ?_) ?_
        ·simp [-splice, f1, f69, b_b1, ld_44_2_3]
         exact hJ _ _ _ ⟨by simp [f69], by simp [-splice, f1, f69, b_b1, ld_44_2_3]⟩
        clear f1 f69 b_b1 l_b1
        rintro t H n ⟨f69, f71⟩
        obtain ⟨x20, hx20, h⟩ := bnd h
        refine Stk.cv (g := 36) (args := [.sc (.int .i64 a0.B), .sc (.int .i64 6)]) (args' := [.sc (.int .i64 a0.B), .sc (.int .i64 6)]) (v := .sc (.bool x20)) [] (ok_R19_below F _ _ _ hx20) (by simp [f69, f71]) rfl rfl (by simp [f69, f71]) (.cons (.free (rfl)) (.cons (.free (rfl)) (.nil))) (.inl ⟨rfl, rfl⟩) (fun t' ht' => ?_)
        refine Stk.gen (fun t H n => t 69 = .sc (.bool true) ∧ t 72 = .sc (.bool x20)) ⟨by simp [ht', f69], by simp [ht']⟩ ?_
        clear f69 f71 ht' t'
        rintro t H n ⟨f69, f72⟩
        refine Stk.run 1 (fun t H n => t 73 = .sc (.bool x20)) (fun J hJ => ?_) ?_
        ·simp [-splice, f69, f72]
         exact hJ _ _ _ (by simp [-splice, f69, f72])
        clear f69 f72
        rintro t H n f73
        refine Stk.on ?_
        exact Stk.ln 0 (by decide) (hJ10 _ _ _ ⟨x20, h, f73⟩)
       ·rw [hb10] at f69
        replace h := cF hb10 h
        refine Stk.run 4 (fun t H n => t 73 = .sc (.bool false)) (fun J hJ => ?_) ?_
        ·simp [-splice, f1, f69, b_b1]
         exact hJ _ _ _ (by simp [-splice, f1, f69, b_b1])
        clear f1 f69 b_b1 l_b1
        rintro t H n f73
        refine Stk.on ?_
        exact Stk.ln 0 (by decide) (hJ10 _ _ _ ⟨false, h, f73⟩)
      clear h f1 f69 b_b1 l_b1
      rintro t H n ⟨v19, h, f73⟩
      subst hK10
      refine Stk.run 1 (fun t H n => t 2 = .sc (.bool v19)) (fun J hJ => ?_) ?_
      ·simp [-splice, f73]
       exact hJ _ _ _ (by simp [-splice, f73])
      clear f73
      rintro t H n f2
      refine Stk.on ?_
      refine Stk.rt ?_
      have hq := Option.some.inj h; subst hq
      exact (hr _ _ _ (.sc (.bool v19)) ([]) (by simp [f2]) (.inr (.inr (.free (rfl))))).1
     ·have h := cF hb16 h
      refine Stk.sq ?_
      refine Stk.rg ?_
      refine Stk.run 2 (fun t H n => t 1 = .own b1 0 ∧ t 3 = .sc (.bool ((a0.B == 0) && (a0.C == 0))) ∧ t 4 = .sc (.bool (a0.C == 0)) ∧ t 17 = .sc (.int .i64 a0.Op) ∧ t 74 = .sc (.bool (a0.Op == 5)) ∧ H b1 = some (.cells (c44 a0) 44) ∧ b1 < n) (fun J hJ => ?_) ?_
      ·simp [-splice, f1, f3, f4, f17, f61, b_b1]
       exact hJ _ _ _ ⟨by simp [f1], by simp [f3], by simp [f4], by simp [f17], by simp [-splice, f1, f3, f4, f17, f61, b_b1], b_b1, l_b1⟩
      clear f1 f3 f4 f17 f61 b_b1 l_b1
      rintro t H n ⟨f1, f3, f4, f17, f74, b_b1, l_b1⟩
      refine Stk.on ?_
      refine Stk.cond (a0.Op == 5) (by exact f74) (fun hb21 => ?_) (fun hb21 => ?_)
      ·have h := cT hb21 h
       refine Stk.sq ?_
       refine Stk.rg ?_
       refine Stk.run 2 (fun t H n => t 1 = .own b1 0 ∧ t 77 = .sc (.bool ((a0.B == 0) && (a0.C == 0))) ∧ H b1 = some (.cells (c44 a0) 44) ∧ b1 < n) (fun J hJ => ?_) ?_
       ·simp [-splice, f1, f3, f4, f17, f74, b_b1]
        exact hJ _ _ _ ⟨by simp [f1], by simp [-splice, f1, f3, f4, f17, f74, b_b1], b_b1, l_b1⟩
       clear f1 f3 f4 f17 f74 b_b1 l_b1
       rintro t H n ⟨f1, f77, b_b1, l_b1⟩
       obtain ⟨K11, hK11, h⟩ := jnd h
       refine Stk.jo 4 (fun t H n => ∃ v22 : Bool, K11 v22 = some r ∧ t 81 = .sc (.bool v22)) (fun J11 hJ11 => ?_) ?_
       ·rcases Bool.eq_false_or_eq_true ((a0.B == 0) && (a0.C == 0)) with hb11 | hb11
        ·rw [hb11] at f77
         replace h := cT hb11 h
         refine Stk.run 2 (fun t H n => t 77 = .sc (.bool true) ∧ t 79 = .sc (.int .i64 a0.A)) (fun J hJ => ?_) ?_
         ·simp [-splice, f1, f77, b_b1, ld_44_1_3]
          exact hJ _ _ _ ⟨by simp [f77], by simp [-splice, f1, f77, b_b1, ld_44_1_3]⟩
         clear f1 f77 b_b1 l_b1
         rintro t H n ⟨f77, f79⟩
         obtain ⟨x23, hx23, h⟩ := bnd h
         refine Stk.cv (g := 36) (args := [.sc (.int .i64 a0.A), .sc (.int .i64 12)]) (args' := [.sc (.int .i64 a0.A), .sc (.int .i64 12)]) (v := .sc (.bool x23)) [] (ok_R19_below F _ _ _ hx23) (by simp [f77, f79]) rfl rfl (by simp [f77, f79]) (.cons (.free (rfl)) (.cons (.free (rfl)) (.nil))) (.inl ⟨rfl, rfl⟩) (fun t' ht' => ?_)
         refine Stk.gen (fun t H n => t 77 = .sc (.bool true) ∧ t 80 = .sc (.bool x23)) ⟨by simp [ht', f77], by simp [ht']⟩ ?_
         clear f77 f79 ht' t'
         rintro t H n ⟨f77, f80⟩
         refine Stk.run 1 (fun t H n => t 81 = .sc (.bool x23)) (fun J hJ => ?_) ?_
         ·simp [-splice, f77, f80]
          exact hJ _ _ _ (by simp [-splice, f77, f80])
         clear f77 f80
         rintro t H n f81
         refine Stk.on ?_
         exact Stk.ln 0 (by decide) (hJ11 _ _ _ ⟨x23, h, f81⟩)
        ·rw [hb11] at f77
         replace h := cF hb11 h
         refine Stk.run 4 (fun t H n => t 81 = .sc (.bool false)) (fun J hJ => ?_) ?_
         ·simp [-splice, f1, f77, b_b1]
          exact hJ _ _ _ (by simp [-splice, f1, f77, b_b1])
         clear f1 f77 b_b1 l_b1
         rintro t H n f81
         refine Stk.on ?_
         exact Stk.ln 0 (by decide) (hJ11 _ _ _ ⟨false, h, f81⟩)
       clear h f1 f77 b_b1 l_b1
       rintro t H n ⟨v22, h, f81⟩
       subst hK11
       refine Stk.run 1 (fun t H n => t 2 = .sc (.bool v22)) (fun J hJ => ?_) ?_
       ·simp [-splice, f81]
        exact hJ _ _ _ (by simp [-splice, f81])
       clear f81
       rintro t H n f2
       refine Stk.on ?_
       refine Stk.rt ?_
       have hq := Option.some.inj h; subst hq
       exact (hr _ _ _ (.sc (.bool v22)) ([]) (by simp [f2]) (.inr (.inr (.free (rfl))))).1
      ·have h := cF hb21 h
       refine Stk.sq ?_
       refine Stk.rg ?_
       refine Stk.run 2 (fun t H n => t 1 = .own b1 0 ∧ t 3 = .sc (.bool ((a0.B == 0) && (a0.C == 0))) ∧ t 4 = .sc (.bool (a0.C == 0)) ∧ t 17 = .sc (.int .i64 a0.Op) ∧ t 82 = .sc (.bool (a0.Op == 6)) ∧ H b1 = some (.cells (c44 a0) 44) ∧ b1 < n) (fun J hJ => ?_) ?_
       ·simp [-splice, f1, f3, f4, f17, f74, b_b1]
        exact hJ _ _ _ ⟨by simp [f1], by simp [f3], by simp [f4], by simp [f17], by simp [-splice, f1, f3, f4, f17, f74, b_b1], b_b1, l_b1⟩
       clear f1 f3 f4 f17 f74 b_b1 l_b1
       rintro t H n ⟨f1, f3, f4, f17, f82, b_b1, l_b1⟩
       refine Stk.on ?_
       refine Stk.cond (a0.Op == 6) (by exact f82) (fun hb24 => ?_) (fun hb24 => ?_)
       ·have h := cT hb24 h
        refine Stk.sq ?_
        refine Stk.rg ?_
        refine Stk.run 2 (fun t H n => t 1 = .own b1 0 ∧ t 85 = .sc (.bool (a0.C == 0)) ∧ H b1 = some (.cells (c44 a0) 44) ∧ b1 < n) (fun J hJ => ?_) ?_
        ·simp [-splice, f1, f3, f4, f17, f82, b_b1]
         exact hJ _ _ _ ⟨by simp [f1], by simp [-splice, f1, f3, f4, f17, f82, b_b1], b_b1, l_b1⟩
        clear f1 f3 f4 f17 f82 b_b1 l_b1
        rintro t H n ⟨f1, f85, b_b1, l_b1⟩
        obtain ⟨K12, hK12, h⟩ := jnd h
        refine Stk.jo 4 (fun t H n => ∃ v25 : Bool, K12 v25 = some r ∧ t 1 = .own b1 0 ∧ t 89 = .sc (.bool v25) ∧ H b1 = some (.cells (c44 a0) 44) ∧ b1 < n) (fun J12 hJ12 => ?_) ?_
        ·rcases Bool.eq_false_or_eq_true (a0.C == 0) with hb12 | hb12
         ·rw [hb12] at f85
          replace h := cT hb12 h
          refine Stk.run 2 (fun t H n => t 1 = .own b1 0 ∧ t 85 = .sc (.bool true) ∧ t 87 = .sc (.int .i64 a0.A) ∧ H b1 = some (.cells (c44 a0) 44) ∧ b1 < n) (fun J hJ => ?_) ?_
          ·simp [-splice, f1, f85, b_b1, ld_44_1_3]
           exact hJ _ _ _ ⟨by simp [f1], by simp [f85], by simp [-splice, f1, f85, b_b1, ld_44_1_3], b_b1, l_b1⟩
          clear f1 f85 b_b1 l_b1
          rintro t H n ⟨f1, f85, f87, b_b1, l_b1⟩
          obtain ⟨x26, hx26, h⟩ := bnd h
          refine Stk.cv (g := 36) (args := [.sc (.int .i64 a0.A), .sc (.int .i64 80)]) (args' := [.sc (.int .i64 a0.A), .sc (.int .i64 80)]) (v := .sc (.bool x26)) [] (ok_R19_below F _ _ _ hx26) (by simp [f1, f85, f87]) rfl rfl (by simp [f1, f85, f87]) (.cons (.free (rfl)) (.cons (.free (rfl)) (.nil))) (.inl ⟨rfl, rfl⟩) (fun t' ht' => ?_)
          refine Stk.gen (fun t H n => t 1 = .own b1 0 ∧ t 85 = .sc (.bool true) ∧ t 88 = .sc (.bool x26) ∧ H b1 = some (.cells (c44 a0) 44) ∧ b1 < n) ⟨by simp [ht', f1], by simp [ht', f85], by simp [ht'], b_b1, l_b1⟩ ?_
          clear f1 f85 f87 b_b1 l_b1 ht' t'
          rintro t H n ⟨f1, f85, f88, b_b1, l_b1⟩
          refine Stk.run 1 (fun t H n => t 1 = .own b1 0 ∧ t 89 = .sc (.bool x26) ∧ H b1 = some (.cells (c44 a0) 44) ∧ b1 < n) (fun J hJ => ?_) ?_
          ·simp [-splice, f1, f85, f88, b_b1]
           exact hJ _ _ _ ⟨by simp [f1], by simp [-splice, f1, f85, f88, b_b1], b_b1, l_b1⟩
          clear f1 f85 f88 b_b1 l_b1
          rintro t H n ⟨f1, f89, b_b1, l_b1⟩
          refine Stk.on ?_
          exact Stk.ln 0 (by decide) (hJ12 _ _ _ ⟨x26, h, f1, f89, b_b1, l_b1⟩)
         ·rw [hb12] at f85
          replace h := cF hb12 h
          refine Stk.run 4 (fun t H n => t 1 = .own b1 0 ∧ t 89 = .sc (.bool false) ∧ H b1 = some (.cells (c44 a0) 44) ∧ b1 < n) (fun J hJ => ?_) ?_
          ·simp [-splice, f1, f85, b_b1]
           exact hJ _ _ _ ⟨by simp [f1], by simp [-splice, f1, f85, b_b1], b_b1, l_b1⟩
          clear f1 f85 b_b1 l_b1
          rintro t H n ⟨f1, f89, b_b1, l_b1⟩
          refine Stk.on ?_
          exact Stk.ln 0 (by decide) (hJ12 _ _ _ ⟨false, h, f1, f89, b_b1, l_b1⟩)
        clear h f1 f85 b_b1 l_b1
        rintro t H n ⟨v25, h, f1, f89, b_b1, l_b1⟩
        subst hK12
        refine Stk.run 1 (fun t H n => t 1 = .own b1 0 ∧ t 90 = .sc (.bool v25) ∧ H b1 = some (.cells (c44 a0) 44) ∧ b1 < n) (fun J hJ => ?_) ?_
        ·simp [-splice, f1, f89, b_b1]
         exact hJ _ _ _ ⟨by simp [f1], by simp [-splice, f1, f89, b_b1], b_b1, l_b1⟩
        clear f1 f89 b_b1 l_b1
        rintro t H n ⟨f1, f90, b_b1, l_b1⟩
        refine Stk.jo 4 (fun t H n => t 1 = .own b1 0 ∧ t 94 = .sc (.bool (v25 && (decide (1 ≤ a0.B)))) ∧ H b1 = some (.cells (c44 a0) 44) ∧ b1 < n) (fun J13 hJ13 => ?_) ?_
        ·rcases Bool.eq_false_or_eq_true v25 with hb13 | hb13
         ·rw [hb13] at f90
          refine Stk.run 4 (fun t H n => t 1 = .own b1 0 ∧ t 94 = .sc (.bool (decide (1 ≤ a0.B))) ∧ H b1 = some (.cells (c44 a0) 44) ∧ b1 < n) (fun J hJ => ?_) ?_
          ·simp [-splice, f1, f90, b_b1, ld_44_2_3]
           exact hJ _ _ _ ⟨by simp [f1], by simp [-splice, f1, f90, b_b1, ld_44_2_3], b_b1, l_b1⟩
          clear f1 f90 b_b1 l_b1
          rintro t H n ⟨f1, f94, b_b1, l_b1⟩
          refine Stk.on ?_
          exact Stk.ln 0 (by decide) (hJ13 _ _ _ ⟨f1, f94.trans (congrArg (fun q => AV.sc (.bool q)) (by rw [hb13]; rfl)), b_b1, l_b1⟩)
         ·rw [hb13] at f90
          refine Stk.run 4 (fun t H n => t 1 = .own b1 0 ∧ t 94 = .sc (.bool false) ∧ H b1 = some (.cells (c44 a0) 44) ∧ b1 < n) (fun J hJ => ?_) ?_
          ·simp [-splice, f1, f90, b_b1]
           exact hJ _ _ _ ⟨by simp [f1], by simp [-splice, f1, f90, b_b1], b_b1, l_b1⟩
          clear f1 f90 b_b1 l_b1
          rintro t H n ⟨f1, f94, b_b1, l_b1⟩
          refine Stk.on ?_
          exact Stk.ln 0 (by decide) (hJ13 _ _ _ ⟨f1, f94.trans (congrArg (fun q => AV.sc (.bool q)) (by rw [hb13]; rfl)), b_b1, l_b1⟩)
        clear f1 f90 b_b1 l_b1
        rintro t H n ⟨f1, f94, b_b1, l_b1⟩
        refine Stk.run 1 (fun t H n => t 1 = .own b1 0 ∧ t 95 = .sc (.bool (v25 && (decide (1 ≤ a0.B)))) ∧ H b1 = some (.cells (c44 a0) 44) ∧ b1 < n) (fun J hJ => ?_) ?_
        ·simp [-splice, f1, f94, b_b1]
         exact hJ _ _ _ ⟨by simp [f1], by simp [-splice, f1, f94, b_b1], b_b1, l_b1⟩
        clear f1 f94 b_b1 l_b1
        rintro t H n ⟨f1, f95, b_b1, l_b1⟩
        refine Stk.jo 4 (fun t H n => t 99 = .sc (.bool ((v25 && (decide (1 ≤ a0.B))) && (decide (a0.B ≤ 6))))) (fun J14 hJ14 => ?_) ?_
        ·rcases Bool.eq_false_or_eq_true (v25 && (decide (1 ≤ a0.B))) with hb14 | hb14
         ·rw [hb14] at f95
          refine Stk.run 4 (fun t H n => t 99 = .sc (.bool (decide (a0.B ≤ 6)))) (fun J hJ => ?_) ?_
          ·simp [-splice, f1, f95, b_b1, ld_44_2_3]
           exact hJ _ _ _ (by simp [-splice, f1, f95, b_b1, ld_44_2_3])
          clear f1 f95 b_b1 l_b1
          rintro t H n f99
          refine Stk.on ?_
          exact Stk.ln 0 (by decide) (hJ14 _ _ _ (f99.trans (congrArg (fun q => AV.sc (.bool q)) (by rw [hb14]; rfl))))
         ·rw [hb14] at f95
          refine Stk.run 4 (fun t H n => t 99 = .sc (.bool false)) (fun J hJ => ?_) ?_
          ·simp [-splice, f1, f95, b_b1]
           exact hJ _ _ _ (by simp [-splice, f1, f95, b_b1])
          clear f1 f95 b_b1 l_b1
          rintro t H n f99
          refine Stk.on ?_
          exact Stk.ln 0 (by decide) (hJ14 _ _ _ (f99.trans (congrArg (fun q => AV.sc (.bool q)) (by rw [hb14]; rfl))))
        clear f1 f95 b_b1 l_b1
        rintro t H n f99
        refine Stk.run 1 (fun t H n => t 2 = .sc (.bool ((v25 && (decide (1 ≤ a0.B))) && (decide (a0.B ≤ 6))))) (fun J hJ => ?_) ?_
        ·simp [-splice, f99]
         exact hJ _ _ _ (by simp [-splice, f99])
        clear f99
        rintro t H n f2
        refine Stk.on ?_
        refine Stk.rt ?_
        have hq := Option.some.inj h; subst hq
        exact (hr _ _ _ (.sc (.bool ((v25 && (decide (1 ≤ a0.B))) && (decide (a0.B ≤ 6))))) ([]) (by simp [f2]) (.inr (.inr (.free (rfl))))).1
       ·have h := cF hb24 h
        refine Stk.sq ?_
        refine Stk.sq ?_
        refine Stk.rg ?_
        refine Stk.run 2 (fun t H n => t 1 = .own b1 0 ∧ t 3 = .sc (.bool ((a0.B == 0) && (a0.C == 0))) ∧ t 4 = .sc (.bool (a0.C == 0)) ∧ t 17 = .sc (.int .i64 a0.Op) ∧ t 100 = .sc (.bool (a0.Op == 7)) ∧ H b1 = some (.cells (c44 a0) 44) ∧ b1 < n) (fun J hJ => ?_) ?_
        ·simp [-splice, f1, f3, f4, f17, f82, b_b1]
         exact hJ _ _ _ ⟨by simp [f1], by simp [f3], by simp [f4], by simp [f17], by simp [-splice, f1, f3, f4, f17, f82, b_b1], b_b1, l_b1⟩
        clear f1 f3 f4 f17 f82 b_b1 l_b1
        rintro t H n ⟨f1, f3, f4, f17, f100, b_b1, l_b1⟩
        refine Stk.on ?_
        obtain ⟨K15, hK15, h⟩ := jnd h
        refine Stk.jn (fun t H n => ∃ v27 : Bool, K15 v27 = some r ∧ t 1 = .own b1 0 ∧ t 3 = .sc (.bool ((a0.B == 0) && (a0.C == 0))) ∧ t 4 = .sc (.bool (a0.C == 0)) ∧ t 17 = .sc (.int .i64 a0.Op) ∧ t 100 = .sc (.bool v27) ∧ H b1 = some (.cells (c44 a0) 44) ∧ b1 < n) trivial (fun J15 hJ15 => ?_) ?_
        ·skip
         refine Stk.cond (a0.Op == 7) (by exact f100) (fun hb28 => ?_) (fun hb28 => ?_)
         ·have h := cT hb28 h
          refine Stk.sk ?_
          exact Stk.ln 0 (by decide) (hJ15 _ _ _ ⟨(a0.Op == 7), h, f1, f3, f4, f17, f100, b_b1, l_b1⟩)
         ·have h := cF hb28 h
          refine Stk.rg ?_
          refine Stk.run 2 (fun t H n => t 1 = .own b1 0 ∧ t 3 = .sc (.bool ((a0.B == 0) && (a0.C == 0))) ∧ t 4 = .sc (.bool (a0.C == 0)) ∧ t 17 = .sc (.int .i64 a0.Op) ∧ t 100 = .sc (.bool (a0.Op == 15)) ∧ H b1 = some (.cells (c44 a0) 44) ∧ b1 < n) (fun J hJ => ?_) ?_
          ·simp [-splice, f1, f3, f4, f17, f100, b_b1]
           exact hJ _ _ _ ⟨by simp [f1], by simp [f3], by simp [f4], by simp [f17], by simp [-splice, f1, f3, f4, f17, f100, b_b1], b_b1, l_b1⟩
          clear f1 f3 f4 f17 f100 b_b1 l_b1
          rintro t H n ⟨f1, f3, f4, f17, f100, b_b1, l_b1⟩
          refine Stk.on ?_
          exact Stk.ln 0 (by decide) (hJ15 _ _ _ ⟨(a0.Op == 15), h, f1, f3, f4, f17, f100, b_b1, l_b1⟩)
        clear h f1 f3 f4 f17 f100 b_b1 l_b1
        rintro t H n ⟨v27, h, f1, f3, f4, f17, f100, b_b1, l_b1⟩
        subst hK15
        refine Stk.cond v27 (by exact f100) (fun hb29 => ?_) (fun hb29 => ?_)
        ·have h := cT hb29 h
         refine Stk.sq ?_
         refine Stk.rg ?_
         refine Stk.run 2 (fun t H n => t 1 = .own b1 0 ∧ t 104 = .sc (.bool ((a0.B == 0) && (a0.C == 0))) ∧ H b1 = some (.cells (c44 a0) 44) ∧ b1 < n) (fun J hJ => ?_) ?_
         ·simp [-splice, f1, f3, f4, f17, f100, b_b1]
          exact hJ _ _ _ ⟨by simp [f1], by simp [-splice, f1, f3, f4, f17, f100, b_b1], b_b1, l_b1⟩
         clear f1 f3 f4 f17 f100 b_b1 l_b1
         rintro t H n ⟨f1, f104, b_b1, l_b1⟩
         refine Stk.jo 4 (fun t H n => t 108 = .sc (.bool (((a0.B == 0) && (a0.C == 0)) && (a0.A == 0)))) (fun J16 hJ16 => ?_) ?_
         ·rcases Bool.eq_false_or_eq_true ((a0.B == 0) && (a0.C == 0)) with hb16 | hb16
          ·rw [hb16] at f104
           refine Stk.run 4 (fun t H n => t 108 = .sc (.bool (a0.A == 0))) (fun J hJ => ?_) ?_
           ·simp [-splice, f1, f104, b_b1, ld_44_1_3]
            exact hJ _ _ _ (by simp [-splice, f1, f104, b_b1, ld_44_1_3])
           clear f1 f104 b_b1 l_b1
           rintro t H n f108
           refine Stk.on ?_
           exact Stk.ln 0 (by decide) (hJ16 _ _ _ (f108.trans (congrArg (fun q => AV.sc (.bool q)) (by rw [hb16]; rfl))))
          ·rw [hb16] at f104
           refine Stk.run 4 (fun t H n => t 108 = .sc (.bool false)) (fun J hJ => ?_) ?_
           ·simp [-splice, f1, f104, b_b1]
            exact hJ _ _ _ (by simp [-splice, f1, f104, b_b1])
           clear f1 f104 b_b1 l_b1
           rintro t H n f108
           refine Stk.on ?_
           exact Stk.ln 0 (by decide) (hJ16 _ _ _ (f108.trans (congrArg (fun q => AV.sc (.bool q)) (by rw [hb16]; rfl))))
         clear f1 f104 b_b1 l_b1
         rintro t H n f108
         refine Stk.run 1 (fun t H n => t 2 = .sc (.bool (((a0.B == 0) && (a0.C == 0)) && (a0.A == 0)))) (fun J hJ => ?_) ?_
         ·simp [-splice, f108]
          exact hJ _ _ _ (by simp [-splice, f108])
         clear f108
         rintro t H n f2
         refine Stk.on ?_
         refine Stk.rt ?_
         have hq := Option.some.inj h; subst hq
         exact (hr _ _ _ (.sc (.bool (((a0.B == 0) && (a0.C == 0)) && (a0.A == 0)))) ([]) (by simp [f2]) (.inr (.inr (.free (rfl))))).1
        ·have h := cF hb29 h
         refine Stk.sq ?_
         refine Stk.rg ?_
         refine Stk.run 2 (fun t H n => t 1 = .own b1 0 ∧ t 3 = .sc (.bool ((a0.B == 0) && (a0.C == 0))) ∧ t 4 = .sc (.bool (a0.C == 0)) ∧ t 17 = .sc (.int .i64 a0.Op) ∧ t 109 = .sc (.bool (a0.Op == 8)) ∧ H b1 = some (.cells (c44 a0) 44) ∧ b1 < n) (fun J hJ => ?_) ?_
         ·simp [-splice, f1, f3, f4, f17, f100, b_b1]
          exact hJ _ _ _ ⟨by simp [f1], by simp [f3], by simp [f4], by simp [f17], by simp [-splice, f1, f3, f4, f17, f100, b_b1], b_b1, l_b1⟩
         clear f1 f3 f4 f17 f100 b_b1 l_b1
         rintro t H n ⟨f1, f3, f4, f17, f109, b_b1, l_b1⟩
         refine Stk.on ?_
         refine Stk.cond (a0.Op == 8) (by exact f109) (fun hb30 => ?_) (fun hb30 => ?_)
         ·have h := cT hb30 h
          refine Stk.sq ?_
          refine Stk.rg ?_
          refine Stk.run 2 (fun t H n => t 1 = .own b1 0 ∧ t 112 = .sc (.bool ((a0.B == 0) && (a0.C == 0))) ∧ H b1 = some (.cells (c44 a0) 44) ∧ b1 < n) (fun J hJ => ?_) ?_
          ·simp [-splice, f1, f3, f4, f17, f109, b_b1]
           exact hJ _ _ _ ⟨by simp [f1], by simp [-splice, f1, f3, f4, f17, f109, b_b1], b_b1, l_b1⟩
          clear f1 f3 f4 f17 f109 b_b1 l_b1
          rintro t H n ⟨f1, f112, b_b1, l_b1⟩
          refine Stk.jo 4 (fun t H n => t 1 = .own b1 0 ∧ t 116 = .sc (.bool (((a0.B == 0) && (a0.C == 0)) && (decide (1 ≤ a0.A)))) ∧ H b1 = some (.cells (c44 a0) 44) ∧ b1 < n) (fun J17 hJ17 => ?_) ?_
          ·rcases Bool.eq_false_or_eq_true ((a0.B == 0) && (a0.C == 0)) with hb17 | hb17
           ·rw [hb17] at f112
            refine Stk.run 4 (fun t H n => t 1 = .own b1 0 ∧ t 116 = .sc (.bool (decide (1 ≤ a0.A))) ∧ H b1 = some (.cells (c44 a0) 44) ∧ b1 < n) (fun J hJ => ?_) ?_
            ·simp [-splice, f1, f112, b_b1, ld_44_1_3]
             exact hJ _ _ _ ⟨by simp [f1], by simp [-splice, f1, f112, b_b1, ld_44_1_3], b_b1, l_b1⟩
            clear f1 f112 b_b1 l_b1
            rintro t H n ⟨f1, f116, b_b1, l_b1⟩
            refine Stk.on ?_
            exact Stk.ln 0 (by decide) (hJ17 _ _ _ ⟨f1, f116.trans (congrArg (fun q => AV.sc (.bool q)) (by rw [hb17]; rfl)), b_b1, l_b1⟩)
           ·rw [hb17] at f112
            refine Stk.run 4 (fun t H n => t 1 = .own b1 0 ∧ t 116 = .sc (.bool false) ∧ H b1 = some (.cells (c44 a0) 44) ∧ b1 < n) (fun J hJ => ?_) ?_
            ·simp [-splice, f1, f112, b_b1]
             exact hJ _ _ _ ⟨by simp [f1], by simp [-splice, f1, f112, b_b1], b_b1, l_b1⟩
            clear f1 f112 b_b1 l_b1
            rintro t H n ⟨f1, f116, b_b1, l_b1⟩
            refine Stk.on ?_
            exact Stk.ln 0 (by decide) (hJ17 _ _ _ ⟨f1, f116.trans (congrArg (fun q => AV.sc (.bool q)) (by rw [hb17]; rfl)), b_b1, l_b1⟩)
          clear f1 f112 b_b1 l_b1
          rintro t H n ⟨f1, f116, b_b1, l_b1⟩
          refine Stk.run 1 (fun t H n => t 1 = .own b1 0 ∧ t 117 = .sc (.bool (((a0.B == 0) && (a0.C == 0)) && (decide (1 ≤ a0.A)))) ∧ H b1 = some (.cells (c44 a0) 44) ∧ b1 < n) (fun J hJ => ?_) ?_
          ·simp [-splice, f1, f116, b_b1]
           exact hJ _ _ _ ⟨by simp [f1], by simp [-splice, f1, f116, b_b1], b_b1, l_b1⟩
          clear f1 f116 b_b1 l_b1
          rintro t H n ⟨f1, f117, b_b1, l_b1⟩
          refine Stk.jo 4 (fun t H n => t 121 = .sc (.bool ((((a0.B == 0) && (a0.C == 0)) && (decide (1 ≤ a0.A))) && (decide (a0.A ≤ 8192))))) (fun J18 hJ18 => ?_) ?_
          ·rcases Bool.eq_false_or_eq_true (((a0.B == 0) && (a0.C == 0)) && (decide (1 ≤ a0.A))) with hb18 | hb18
           ·rw [hb18] at f117
            refine Stk.run 4 (fun t H n => t 121 = .sc (.bool (decide (a0.A ≤ 8192)))) (fun J hJ => ?_) ?_
            ·simp [-splice, f1, f117, b_b1, ld_44_1_3]
             exact hJ _ _ _ (by simp [-splice, f1, f117, b_b1, ld_44_1_3])
            clear f1 f117 b_b1 l_b1
            rintro t H n f121
            refine Stk.on ?_
            exact Stk.ln 0 (by decide) (hJ18 _ _ _ (f121.trans (congrArg (fun q => AV.sc (.bool q)) (by rw [hb18]; rfl))))
           ·rw [hb18] at f117
            refine Stk.run 4 (fun t H n => t 121 = .sc (.bool false)) (fun J hJ => ?_) ?_
            ·simp [-splice, f1, f117, b_b1]
             exact hJ _ _ _ (by simp [-splice, f1, f117, b_b1])
            clear f1 f117 b_b1 l_b1
            rintro t H n f121
            refine Stk.on ?_
            exact Stk.ln 0 (by decide) (hJ18 _ _ _ (f121.trans (congrArg (fun q => AV.sc (.bool q)) (by rw [hb18]; rfl))))
          clear f1 f117 b_b1 l_b1
          rintro t H n f121
          refine Stk.run 1 (fun t H n => t 2 = .sc (.bool ((((a0.B == 0) && (a0.C == 0)) && (decide (1 ≤ a0.A))) && (decide (a0.A ≤ 8192))))) (fun J hJ => ?_) ?_
          ·simp [-splice, f121]
           exact hJ _ _ _ (by simp [-splice, f121])
          clear f121
          rintro t H n f2
          refine Stk.on ?_
          refine Stk.rt ?_
          have hq := Option.some.inj h; subst hq
          exact (hr _ _ _ (.sc (.bool ((((a0.B == 0) && (a0.C == 0)) && (decide (1 ≤ a0.A))) && (decide (a0.A ≤ 8192))))) ([]) (by simp [f2]) (.inr (.inr (.free (rfl))))).1
         ·have h := cF hb30 h
          refine Stk.sq ?_
          refine Stk.sq ?_
          refine Stk.rg ?_
          refine Stk.run 2 (fun t H n => t 1 = .own b1 0 ∧ t 3 = .sc (.bool ((a0.B == 0) && (a0.C == 0))) ∧ t 4 = .sc (.bool (a0.C == 0)) ∧ t 17 = .sc (.int .i64 a0.Op) ∧ t 122 = .sc (.bool (a0.Op == 9)) ∧ H b1 = some (.cells (c44 a0) 44) ∧ b1 < n) (fun J hJ => ?_) ?_
          ·simp [-splice, f1, f3, f4, f17, f109, b_b1]
           exact hJ _ _ _ ⟨by simp [f1], by simp [f3], by simp [f4], by simp [f17], by simp [-splice, f1, f3, f4, f17, f109, b_b1], b_b1, l_b1⟩
          clear f1 f3 f4 f17 f109 b_b1 l_b1
          rintro t H n ⟨f1, f3, f4, f17, f122, b_b1, l_b1⟩
          refine Stk.on ?_
          obtain ⟨K19, hK19, h⟩ := jnd h
          refine Stk.jn (fun t H n => ∃ v31 : Bool, K19 v31 = some r ∧ t 1 = .own b1 0 ∧ t 3 = .sc (.bool ((a0.B == 0) && (a0.C == 0))) ∧ t 4 = .sc (.bool (a0.C == 0)) ∧ t 17 = .sc (.int .i64 a0.Op) ∧ t 122 = .sc (.bool v31) ∧ H b1 = some (.cells (c44 a0) 44) ∧ b1 < n) trivial (fun J19 hJ19 => ?_) ?_
          ·skip
           refine Stk.cond (a0.Op == 9) (by exact f122) (fun hb32 => ?_) (fun hb32 => ?_)
           ·have h := cT hb32 h
            refine Stk.sk ?_
            exact Stk.ln 0 (by decide) (hJ19 _ _ _ ⟨(a0.Op == 9), h, f1, f3, f4, f17, f122, b_b1, l_b1⟩)
           ·have h := cF hb32 h
            refine Stk.rg ?_
            refine Stk.run 2 (fun t H n => t 1 = .own b1 0 ∧ t 3 = .sc (.bool ((a0.B == 0) && (a0.C == 0))) ∧ t 4 = .sc (.bool (a0.C == 0)) ∧ t 17 = .sc (.int .i64 a0.Op) ∧ t 122 = .sc (.bool (a0.Op == 10)) ∧ H b1 = some (.cells (c44 a0) 44) ∧ b1 < n) (fun J hJ => ?_) ?_
            ·simp [-splice, f1, f3, f4, f17, f122, b_b1]
             exact hJ _ _ _ ⟨by simp [f1], by simp [f3], by simp [f4], by simp [f17], by simp [-splice, f1, f3, f4, f17, f122, b_b1], b_b1, l_b1⟩
            clear f1 f3 f4 f17 f122 b_b1 l_b1
            rintro t H n ⟨f1, f3, f4, f17, f122, b_b1, l_b1⟩
            refine Stk.on ?_
            exact Stk.ln 0 (by decide) (hJ19 _ _ _ ⟨(a0.Op == 10), h, f1, f3, f4, f17, f122, b_b1, l_b1⟩)
          clear h f1 f3 f4 f17 f122 b_b1 l_b1
          rintro t H n ⟨v31, h, f1, f3, f4, f17, f122, b_b1, l_b1⟩
          subst hK19
          refine Stk.cond v31 (by exact f122) (fun hb33 => ?_) (fun hb33 => ?_)
          ·have h := cT hb33 h
           refine Stk.sq ?_
           refine Stk.rg ?_
           refine Stk.run 2 (fun t H n => t 1 = .own b1 0 ∧ t 126 = .sc (.bool ((a0.B == 0) && (a0.C == 0))) ∧ H b1 = some (.cells (c44 a0) 44) ∧ b1 < n) (fun J hJ => ?_) ?_
           ·simp [-splice, f1, f3, f4, f17, f122, b_b1]
            exact hJ _ _ _ ⟨by simp [f1], by simp [-splice, f1, f3, f4, f17, f122, b_b1], b_b1, l_b1⟩
           clear f1 f3 f4 f17 f122 b_b1 l_b1
           rintro t H n ⟨f1, f126, b_b1, l_b1⟩
           obtain ⟨K20, hK20, h⟩ := jnd h
           refine Stk.jo 4 (fun t H n => ∃ v34 : Bool, K20 v34 = some r ∧ t 130 = .sc (.bool v34)) (fun J20 hJ20 => ?_) ?_
           ·rcases Bool.eq_false_or_eq_true ((a0.B == 0) && (a0.C == 0)) with hb20 | hb20
            ·rw [hb20] at f126
             replace h := cT hb20 h
             refine Stk.run 2 (fun t H n => t 126 = .sc (.bool true) ∧ t 128 = .sc (.int .i64 a0.A)) (fun J hJ => ?_) ?_
             ·simp [-splice, f1, f126, b_b1, ld_44_1_3]
              exact hJ _ _ _ ⟨by simp [f126], by simp [-splice, f1, f126, b_b1, ld_44_1_3]⟩
             clear f1 f126 b_b1 l_b1
             rintro t H n ⟨f126, f128⟩
             obtain ⟨x35, hx35, h⟩ := bnd h
             refine Stk.cv (g := 36) (args := [.sc (.int .i64 a0.A), .sc (.int .i64 1048576)]) (args' := [.sc (.int .i64 a0.A), .sc (.int .i64 1048576)]) (v := .sc (.bool x35)) [] (ok_R19_below F _ _ _ hx35) (by simp [f126, f128]) rfl rfl (by simp [f126, f128]) (.cons (.free (rfl)) (.cons (.free (rfl)) (.nil))) (.inl ⟨rfl, rfl⟩) (fun t' ht' => ?_)
             refine Stk.gen (fun t H n => t 126 = .sc (.bool true) ∧ t 129 = .sc (.bool x35)) ⟨by simp [ht', f126], by simp [ht']⟩ ?_
             clear f126 f128 ht' t'
             rintro t H n ⟨f126, f129⟩
             refine Stk.run 1 (fun t H n => t 130 = .sc (.bool x35)) (fun J hJ => ?_) ?_
             ·simp [-splice, f126, f129]
              exact hJ _ _ _ (by simp [-splice, f126, f129])
             clear f126 f129
             rintro t H n f130
             refine Stk.on ?_
             exact Stk.ln 0 (by decide) (hJ20 _ _ _ ⟨x35, h, f130⟩)
            ·rw [hb20] at f126
             replace h := cF hb20 h
             refine Stk.run 4 (fun t H n => t 130 = .sc (.bool false)) (fun J hJ => ?_) ?_
             ·simp [-splice, f1, f126, b_b1]
              exact hJ _ _ _ (by simp [-splice, f1, f126, b_b1])
             clear f1 f126 b_b1 l_b1
             rintro t H n f130
             refine Stk.on ?_
             exact Stk.ln 0 (by decide) (hJ20 _ _ _ ⟨false, h, f130⟩)
           clear h f1 f126 b_b1 l_b1
           rintro t H n ⟨v34, h, f130⟩
           subst hK20
           refine Stk.run 1 (fun t H n => t 2 = .sc (.bool v34)) (fun J hJ => ?_) ?_
           ·simp [-splice, f130]
            exact hJ _ _ _ (by simp [-splice, f130])
           clear f130
           rintro t H n f2
           refine Stk.on ?_
           refine Stk.rt ?_
           have hq := Option.some.inj h; subst hq
           exact (hr _ _ _ (.sc (.bool v34)) ([]) (by simp [f2]) (.inr (.inr (.free (rfl))))).1
          ·have h := cF hb33 h
           refine Stk.sq ?_
           refine Stk.rg ?_
           refine Stk.run 2 (fun t H n => t 1 = .own b1 0 ∧ t 4 = .sc (.bool (a0.C == 0)) ∧ t 17 = .sc (.int .i64 a0.Op) ∧ t 131 = .sc (.bool (a0.Op == 11)) ∧ H b1 = some (.cells (c44 a0) 44) ∧ b1 < n) (fun J hJ => ?_) ?_
           ·simp [-splice, f1, f3, f4, f17, f122, b_b1]
            exact hJ _ _ _ ⟨by simp [f1], by simp [f4], by simp [f17], by simp [-splice, f1, f3, f4, f17, f122, b_b1], b_b1, l_b1⟩
           clear f1 f3 f4 f17 f122 b_b1 l_b1
           rintro t H n ⟨f1, f4, f17, f131, b_b1, l_b1⟩
           refine Stk.on ?_
           refine Stk.cond (a0.Op == 11) (by exact f131) (fun hb36 => ?_) (fun hb36 => ?_)
           ·have h := cT hb36 h
            refine Stk.sq ?_
            refine Stk.rg ?_
            refine Stk.run 2 (fun t H n => t 1 = .own b1 0 ∧ t 134 = .sc (.bool (a0.C == 0)) ∧ H b1 = some (.cells (c44 a0) 44) ∧ b1 < n) (fun J hJ => ?_) ?_
            ·simp [-splice, f1, f4, f17, f131, b_b1]
             exact hJ _ _ _ ⟨by simp [f1], by simp [-splice, f1, f4, f17, f131, b_b1], b_b1, l_b1⟩
            clear f1 f4 f17 f131 b_b1 l_b1
            rintro t H n ⟨f1, f134, b_b1, l_b1⟩
            obtain ⟨K21, hK21, h⟩ := jnd h
            refine Stk.jo 4 (fun t H n => ∃ v37 : Bool, K21 v37 = some r ∧ t 1 = .own b1 0 ∧ t 138 = .sc (.bool v37) ∧ H b1 = some (.cells (c44 a0) 44) ∧ b1 < n) (fun J21 hJ21 => ?_) ?_
            ·rcases Bool.eq_false_or_eq_true (a0.C == 0) with hb21 | hb21
             ·rw [hb21] at f134
              replace h := cT hb21 h
              refine Stk.run 2 (fun t H n => t 1 = .own b1 0 ∧ t 134 = .sc (.bool true) ∧ t 136 = .sc (.int .i64 a0.A) ∧ H b1 = some (.cells (c44 a0) 44) ∧ b1 < n) (fun J hJ => ?_) ?_
              ·simp [-splice, f1, f134, b_b1, ld_44_1_3]
               exact hJ _ _ _ ⟨by simp [f1], by simp [f134], by simp [-splice, f1, f134, b_b1, ld_44_1_3], b_b1, l_b1⟩
              clear f1 f134 b_b1 l_b1
              rintro t H n ⟨f1, f134, f136, b_b1, l_b1⟩
              obtain ⟨x38, hx38, h⟩ := bnd h
              refine Stk.cv (g := 36) (args := [.sc (.int .i64 a0.A), .sc (.int .i64 8192)]) (args' := [.sc (.int .i64 a0.A), .sc (.int .i64 8192)]) (v := .sc (.bool x38)) [] (ok_R19_below F _ _ _ hx38) (by simp [f1, f134, f136]) rfl rfl (by simp [f1, f134, f136]) (.cons (.free (rfl)) (.cons (.free (rfl)) (.nil))) (.inl ⟨rfl, rfl⟩) (fun t' ht' => ?_)
              refine Stk.gen (fun t H n => t 1 = .own b1 0 ∧ t 134 = .sc (.bool true) ∧ t 137 = .sc (.bool x38) ∧ H b1 = some (.cells (c44 a0) 44) ∧ b1 < n) ⟨by simp [ht', f1], by simp [ht', f134], by simp [ht'], b_b1, l_b1⟩ ?_
              clear f1 f134 f136 b_b1 l_b1 ht' t'
              rintro t H n ⟨f1, f134, f137, b_b1, l_b1⟩
              refine Stk.run 1 (fun t H n => t 1 = .own b1 0 ∧ t 138 = .sc (.bool x38) ∧ H b1 = some (.cells (c44 a0) 44) ∧ b1 < n) (fun J hJ => ?_) ?_
              ·simp [-splice, f1, f134, f137, b_b1]
               exact hJ _ _ _ ⟨by simp [f1], by simp [-splice, f1, f134, f137, b_b1], b_b1, l_b1⟩
              clear f1 f134 f137 b_b1 l_b1
              rintro t H n ⟨f1, f138, b_b1, l_b1⟩
              refine Stk.on ?_
              exact Stk.ln 0 (by decide) (hJ21 _ _ _ ⟨x38, h, f1, f138, b_b1, l_b1⟩)
             ·rw [hb21] at f134
              replace h := cF hb21 h
              refine Stk.run 4 (fun t H n => t 1 = .own b1 0 ∧ t 138 = .sc (.bool false) ∧ H b1 = some (.cells (c44 a0) 44) ∧ b1 < n) (fun J hJ => ?_) ?_
              ·simp [-splice, f1, f134, b_b1]
               exact hJ _ _ _ ⟨by simp [f1], by simp [-splice, f1, f134, b_b1], b_b1, l_b1⟩
              clear f1 f134 b_b1 l_b1
              rintro t H n ⟨f1, f138, b_b1, l_b1⟩
              refine Stk.on ?_
              exact Stk.ln 0 (by decide) (hJ21 _ _ _ ⟨false, h, f1, f138, b_b1, l_b1⟩)
            clear h f1 f134 b_b1 l_b1
            rintro t H n ⟨v37, h, f1, f138, b_b1, l_b1⟩
            subst hK21
            refine Stk.run 1 (fun t H n => t 1 = .own b1 0 ∧ t 139 = .sc (.bool v37) ∧ H b1 = some (.cells (c44 a0) 44) ∧ b1 < n) (fun J hJ => ?_) ?_
            ·simp [-splice, f1, f138, b_b1]
             exact hJ _ _ _ ⟨by simp [f1], by simp [-splice, f1, f138, b_b1], b_b1, l_b1⟩
            clear f1 f138 b_b1 l_b1
            rintro t H n ⟨f1, f139, b_b1, l_b1⟩
            obtain ⟨K22, hK22, h⟩ := jnd h
            refine Stk.jo 4 (fun t H n => ∃ v39 : Bool, K22 v39 = some r ∧ t 143 = .sc (.bool v39)) (fun J22 hJ22 => ?_) ?_
            ·rcases Bool.eq_false_or_eq_true v37 with hb22 | hb22
             ·rw [hb22] at f139
              replace h := cT hb22 h
              refine Stk.run 2 (fun t H n => t 139 = .sc (.bool true) ∧ t 141 = .sc (.int .i64 a0.B)) (fun J hJ => ?_) ?_
              ·simp [-splice, f1, f139, b_b1, ld_44_2_3]
               exact hJ _ _ _ ⟨by simp [f139], by simp [-splice, f1, f139, b_b1, ld_44_2_3]⟩
              clear f1 f139 b_b1 l_b1
              rintro t H n ⟨f139, f141⟩
              obtain ⟨x40, hx40, h⟩ := bnd h
              refine Stk.cv (g := 36) (args := [.sc (.int .i64 a0.B), .sc (.int .i64 65536)]) (args' := [.sc (.int .i64 a0.B), .sc (.int .i64 65536)]) (v := .sc (.bool x40)) [] (ok_R19_below F _ _ _ hx40) (by simp [f139, f141]) rfl rfl (by simp [f139, f141]) (.cons (.free (rfl)) (.cons (.free (rfl)) (.nil))) (.inl ⟨rfl, rfl⟩) (fun t' ht' => ?_)
              refine Stk.gen (fun t H n => t 139 = .sc (.bool true) ∧ t 142 = .sc (.bool x40)) ⟨by simp [ht', f139], by simp [ht']⟩ ?_
              clear f139 f141 ht' t'
              rintro t H n ⟨f139, f142⟩
              refine Stk.run 1 (fun t H n => t 143 = .sc (.bool x40)) (fun J hJ => ?_) ?_
              ·simp [-splice, f139, f142]
               exact hJ _ _ _ (by simp [-splice, f139, f142])
              clear f139 f142
              rintro t H n f143
              refine Stk.on ?_
              exact Stk.ln 0 (by decide) (hJ22 _ _ _ ⟨x40, h, f143⟩)
             ·rw [hb22] at f139
              replace h := cF hb22 h
              refine Stk.run 4 (fun t H n => t 143 = .sc (.bool false)) (fun J hJ => ?_) ?_
              ·simp [-splice, f1, f139, b_b1]
               exact hJ _ _ _ (by simp [-splice, f1, f139, b_b1])
              clear f1 f139 b_b1 l_b1
              rintro t H n f143
              refine Stk.on ?_
              exact Stk.ln 0 (by decide) (hJ22 _ _ _ ⟨false, h, f143⟩)
            clear h f1 f139 b_b1 l_b1
            rintro t H n ⟨v39, h, f143⟩
            subst hK22
            refine Stk.run 1 (fun t H n => t 2 = .sc (.bool v39)) (fun J hJ => ?_) ?_
            ·simp [-splice, f143]
             exact hJ _ _ _ (by simp [-splice, f143])
            clear f143
            rintro t H n f2
            refine Stk.on ?_
            refine Stk.rt ?_
            have hq := Option.some.inj h; subst hq
            exact (hr _ _ _ (.sc (.bool v39)) ([]) (by simp [f2]) (.inr (.inr (.free (rfl))))).1
           ·have h := cF hb36 h
            refine Stk.sq ?_
            refine Stk.rg ?_
            refine Stk.run 2 (fun t H n => t 1 = .own b1 0 ∧ t 4 = .sc (.bool (a0.C == 0)) ∧ t 17 = .sc (.int .i64 a0.Op) ∧ t 144 = .sc (.bool (a0.Op == 12)) ∧ H b1 = some (.cells (c44 a0) 44) ∧ b1 < n) (fun J hJ => ?_) ?_
            ·simp [-splice, f1, f4, f17, f131, b_b1]
             exact hJ _ _ _ ⟨by simp [f1], by simp [f4], by simp [f17], by simp [-splice, f1, f4, f17, f131, b_b1], b_b1, l_b1⟩
            clear f1 f4 f17 f131 b_b1 l_b1
            rintro t H n ⟨f1, f4, f17, f144, b_b1, l_b1⟩
            refine Stk.on ?_
            refine Stk.cond (a0.Op == 12) (by exact f144) (fun hb41 => ?_) (fun hb41 => ?_)
            ·have h := cT hb41 h
             refine Stk.sq ?_
             refine Stk.rg ?_
             refine Stk.run 2 (fun t H n => t 1 = .own b1 0 ∧ t 147 = .sc (.int .i64 a0.A) ∧ H b1 = some (.cells (c44 a0) 44) ∧ b1 < n) (fun J hJ => ?_) ?_
             ·simp [-splice, f1, f4, f17, f144, b_b1, ld_44_1_3]
              exact hJ _ _ _ ⟨by simp [f1], by simp [-splice, f1, f4, f17, f144, b_b1, ld_44_1_3], b_b1, l_b1⟩
             clear f1 f4 f17 f144 b_b1 l_b1
             rintro t H n ⟨f1, f147, b_b1, l_b1⟩
             obtain ⟨x42, hx42, h⟩ := bnd h
             refine Stk.cv (g := 36) (args := [.sc (.int .i64 a0.A), .sc (.int .i64 8192)]) (args' := [.sc (.int .i64 a0.A), .sc (.int .i64 8192)]) (v := .sc (.bool x42)) [] (ok_R19_below F _ _ _ hx42) (by simp [f1, f147]) rfl rfl (by simp [f1, f147]) (.cons (.free (rfl)) (.cons (.free (rfl)) (.nil))) (.inl ⟨rfl, rfl⟩) (fun t' ht' => ?_)
             refine Stk.gen (fun t H n => t 1 = .own b1 0 ∧ t 148 = .sc (.bool x42) ∧ H b1 = some (.cells (c44 a0) 44) ∧ b1 < n) ⟨by simp [ht', f1], by simp [ht'], b_b1, l_b1⟩ ?_
             clear f1 f147 b_b1 l_b1 ht' t'
             rintro t H n ⟨f1, f148, b_b1, l_b1⟩
             refine Stk.run 1 (fun t H n => t 1 = .own b1 0 ∧ t 149 = .sc (.bool x42) ∧ H b1 = some (.cells (c44 a0) 44) ∧ b1 < n) (fun J hJ => ?_) ?_
             ·simp [-splice, f1, f148, b_b1]
              exact hJ _ _ _ ⟨by simp [f1], by simp [-splice, f1, f148, b_b1], b_b1, l_b1⟩
             clear f1 f148 b_b1 l_b1
             rintro t H n ⟨f1, f149, b_b1, l_b1⟩
             obtain ⟨K23, hK23, h⟩ := jnd h
             refine Stk.jo 4 (fun t H n => ∃ v43 : Bool, K23 v43 = some r ∧ t 1 = .own b1 0 ∧ t 153 = .sc (.bool v43) ∧ H b1 = some (.cells (c44 a0) 44) ∧ b1 < n) (fun J23 hJ23 => ?_) ?_
             ·rcases Bool.eq_false_or_eq_true x42 with hb23 | hb23
              ·rw [hb23] at f149
               replace h := cT hb23 h
               refine Stk.run 2 (fun t H n => t 1 = .own b1 0 ∧ t 149 = .sc (.bool true) ∧ t 151 = .sc (.int .i64 a0.B) ∧ H b1 = some (.cells (c44 a0) 44) ∧ b1 < n) (fun J hJ => ?_) ?_
               ·simp [-splice, f1, f149, b_b1, ld_44_2_3]
                exact hJ _ _ _ ⟨by simp [f1], by simp [f149], by simp [-splice, f1, f149, b_b1, ld_44_2_3], b_b1, l_b1⟩
               clear f1 f149 b_b1 l_b1
               rintro t H n ⟨f1, f149, f151, b_b1, l_b1⟩
               obtain ⟨x44, hx44, h⟩ := bnd h
               refine Stk.cv (g := 35) (args := [.sc (.int .i64 a0.B)]) (args' := [.sc (.int .i64 a0.B)]) (v := .sc (.bool x44)) [] (ok_R19_number F _ _ hx44) (by simp [f1, f149, f151]) rfl rfl (by simp [f1, f149, f151]) (.cons (.free (rfl)) (.nil)) (.inl ⟨rfl, rfl⟩) (fun t' ht' => ?_)
               refine Stk.gen (fun t H n => t 1 = .own b1 0 ∧ t 149 = .sc (.bool true) ∧ t 152 = .sc (.bool x44) ∧ H b1 = some (.cells (c44 a0) 44) ∧ b1 < n) ⟨by simp [ht', f1], by simp [ht', f149], by simp [ht'], b_b1, l_b1⟩ ?_
               clear f1 f149 f151 b_b1 l_b1 ht' t'
               rintro t H n ⟨f1, f149, f152, b_b1, l_b1⟩
               refine Stk.run 1 (fun t H n => t 1 = .own b1 0 ∧ t 153 = .sc (.bool x44) ∧ H b1 = some (.cells (c44 a0) 44) ∧ b1 < n) (fun J hJ => ?_) ?_
               ·simp [-splice, f1, f149, f152, b_b1]
                exact hJ _ _ _ ⟨by simp [f1], by simp [-splice, f1, f149, f152, b_b1], b_b1, l_b1⟩
               clear f1 f149 f152 b_b1 l_b1
               rintro t H n ⟨f1, f153, b_b1, l_b1⟩
               refine Stk.on ?_
               exact Stk.ln 0 (by decide) (hJ23 _ _ _ ⟨x44, h, f1, f153, b_b1, l_b1⟩)
              ·rw [hb23] at f149
               replace h := cF hb23 h
               refine Stk.run 4 (fun t H n => t 1 = .own b1 0 ∧ t 153 = .sc (.bool false) ∧ H b1 = some (.cells (c44 a0) 44) ∧ b1 < n) (fun J hJ => ?_) ?_
               ·simp [-splice, f1, f149, b_b1]
                exact hJ _ _ _ ⟨by simp [f1], by simp [-splice, f1, f149, b_b1], b_b1, l_b1⟩
               clear f1 f149 b_b1 l_b1
               rintro t H n ⟨f1, f153, b_b1, l_b1⟩
               refine Stk.on ?_
               exact Stk.ln 0 (by decide) (hJ23 _ _ _ ⟨false, h, f1, f153, b_b1, l_b1⟩)
             clear h f1 f149 b_b1 l_b1
             rintro t H n ⟨v43, h, f1, f153, b_b1, l_b1⟩
             subst hK23
             refine Stk.run 1 (fun t H n => t 1 = .own b1 0 ∧ t 154 = .sc (.bool v43) ∧ H b1 = some (.cells (c44 a0) 44) ∧ b1 < n) (fun J hJ => ?_) ?_
             ·simp [-splice, f1, f153, b_b1]
              exact hJ _ _ _ ⟨by simp [f1], by simp [-splice, f1, f153, b_b1], b_b1, l_b1⟩
             clear f1 f153 b_b1 l_b1
             rintro t H n ⟨f1, f154, b_b1, l_b1⟩
             obtain ⟨K24, hK24, h⟩ := jnd h
             refine Stk.jo 4 (fun t H n => ∃ v45 : Bool, K24 v45 = some r ∧ t 158 = .sc (.bool v45)) (fun J24 hJ24 => ?_) ?_
             ·rcases Bool.eq_false_or_eq_true v43 with hb24 | hb24
              ·rw [hb24] at f154
               replace h := cT hb24 h
               refine Stk.run 2 (fun t H n => t 154 = .sc (.bool true) ∧ t 156 = .sc (.int .i64 a0.C)) (fun J hJ => ?_) ?_
               ·simp [-splice, f1, f154, b_b1, ld_44_3_3]
                exact hJ _ _ _ ⟨by simp [f154], by simp [-splice, f1, f154, b_b1, ld_44_3_3]⟩
               clear f1 f154 b_b1 l_b1
               rintro t H n ⟨f154, f156⟩
               obtain ⟨x46, hx46, h⟩ := bnd h
               refine Stk.cv (g := 36) (args := [.sc (.int .i64 a0.C), .sc (.int .i64 1048576)]) (args' := [.sc (.int .i64 a0.C), .sc (.int .i64 1048576)]) (v := .sc (.bool x46)) [] (ok_R19_below F _ _ _ hx46) (by simp [f154, f156]) rfl rfl (by simp [f154, f156]) (.cons (.free (rfl)) (.cons (.free (rfl)) (.nil))) (.inl ⟨rfl, rfl⟩) (fun t' ht' => ?_)
               refine Stk.gen (fun t H n => t 154 = .sc (.bool true) ∧ t 157 = .sc (.bool x46)) ⟨by simp [ht', f154], by simp [ht']⟩ ?_
               clear f154 f156 ht' t'
               rintro t H n ⟨f154, f157⟩
               refine Stk.run 1 (fun t H n => t 158 = .sc (.bool x46)) (fun J hJ => ?_) ?_
               ·simp [-splice, f154, f157]
                exact hJ _ _ _ (by simp [-splice, f154, f157])
               clear f154 f157
               rintro t H n f158
               refine Stk.on ?_
               exact Stk.ln 0 (by decide) (hJ24 _ _ _ ⟨x46, h, f158⟩)
              ·rw [hb24] at f154
               replace h := cF hb24 h
               refine Stk.run 4 (fun t H n => t 158 = .sc (.bool false)) (fun J hJ => ?_) ?_
               ·simp [-splice, f1, f154, b_b1]
                exact hJ _ _ _ (by simp [-splice, f1, f154, b_b1])
               clear f1 f154 b_b1 l_b1
               rintro t H n f158
               refine Stk.on ?_
               exact Stk.ln 0 (by decide) (hJ24 _ _ _ ⟨false, h, f158⟩)
             clear h f1 f154 b_b1 l_b1
             rintro t H n ⟨v45, h, f158⟩
             subst hK24
             refine Stk.run 1 (fun t H n => t 2 = .sc (.bool v45)) (fun J hJ => ?_) ?_
             ·simp [-splice, f158]
              exact hJ _ _ _ (by simp [-splice, f158])
             clear f158
             rintro t H n f2
             refine Stk.on ?_
             refine Stk.rt ?_
             have hq := Option.some.inj h; subst hq
             exact (hr _ _ _ (.sc (.bool v45)) ([]) (by simp [f2]) (.inr (.inr (.free (rfl))))).1
            ·have h := cF hb41 h
             refine Stk.sq ?_
             refine Stk.rg ?_
             refine Stk.run 2 (fun t H n => t 1 = .own b1 0 ∧ t 4 = .sc (.bool (a0.C == 0)) ∧ t 159 = .sc (.bool (a0.Op == 13)) ∧ H b1 = some (.cells (c44 a0) 44) ∧ b1 < n) (fun J hJ => ?_) ?_
             ·simp [-splice, f1, f4, f17, f144, b_b1]
              exact hJ _ _ _ ⟨by simp [f1], by simp [f4], by simp [-splice, f1, f4, f17, f144, b_b1], b_b1, l_b1⟩
             clear f1 f4 f17 f144 b_b1 l_b1
             rintro t H n ⟨f1, f4, f159, b_b1, l_b1⟩
             refine Stk.on ?_
             refine Stk.cond (a0.Op == 13) (by exact f159) (fun hb47 => ?_) (fun hb47 => ?_)
             ·have h := cT hb47 h
              refine Stk.sq ?_
              refine Stk.rg ?_
              refine Stk.run 2 (fun t H n => t 1 = .own b1 0 ∧ t 162 = .sc (.bool (a0.C == 0)) ∧ H b1 = some (.cells (c44 a0) 44) ∧ b1 < n) (fun J hJ => ?_) ?_
              ·simp [-splice, f1, f4, f159, b_b1]
               exact hJ _ _ _ ⟨by simp [f1], by simp [-splice, f1, f4, f159, b_b1], b_b1, l_b1⟩
              clear f1 f4 f159 b_b1 l_b1
              rintro t H n ⟨f1, f162, b_b1, l_b1⟩
              obtain ⟨K25, hK25, h⟩ := jnd h
              refine Stk.jo 4 (fun t H n => ∃ v48 : Bool, K25 v48 = some r ∧ t 1 = .own b1 0 ∧ t 166 = .sc (.bool v48) ∧ H b1 = some (.cells (c44 a0) 44) ∧ b1 < n) (fun J25 hJ25 => ?_) ?_
              ·rcases Bool.eq_false_or_eq_true (a0.C == 0) with hb25 | hb25
               ·rw [hb25] at f162
                replace h := cT hb25 h
                refine Stk.run 2 (fun t H n => t 1 = .own b1 0 ∧ t 162 = .sc (.bool true) ∧ t 164 = .sc (.int .i64 a0.A) ∧ H b1 = some (.cells (c44 a0) 44) ∧ b1 < n) (fun J hJ => ?_) ?_
                ·simp [-splice, f1, f162, b_b1, ld_44_1_3]
                 exact hJ _ _ _ ⟨by simp [f1], by simp [f162], by simp [-splice, f1, f162, b_b1, ld_44_1_3], b_b1, l_b1⟩
                clear f1 f162 b_b1 l_b1
                rintro t H n ⟨f1, f162, f164, b_b1, l_b1⟩
                obtain ⟨x49, hx49, h⟩ := bnd h
                refine Stk.cv (g := 36) (args := [.sc (.int .i64 a0.A), .sc (.int .i64 8192)]) (args' := [.sc (.int .i64 a0.A), .sc (.int .i64 8192)]) (v := .sc (.bool x49)) [] (ok_R19_below F _ _ _ hx49) (by simp [f1, f162, f164]) rfl rfl (by simp [f1, f162, f164]) (.cons (.free (rfl)) (.cons (.free (rfl)) (.nil))) (.inl ⟨rfl, rfl⟩) (fun t' ht' => ?_)
                refine Stk.gen (fun t H n => t 1 = .own b1 0 ∧ t 162 = .sc (.bool true) ∧ t 165 = .sc (.bool x49) ∧ H b1 = some (.cells (c44 a0) 44) ∧ b1 < n) ⟨by simp [ht', f1], by simp [ht', f162], by simp [ht'], b_b1, l_b1⟩ ?_
                clear f1 f162 f164 b_b1 l_b1 ht' t'
                rintro t H n ⟨f1, f162, f165, b_b1, l_b1⟩
                refine Stk.run 1 (fun t H n => t 1 = .own b1 0 ∧ t 166 = .sc (.bool x49) ∧ H b1 = some (.cells (c44 a0) 44) ∧ b1 < n) (fun J hJ => ?_) ?_
                ·simp [-splice, f1, f162, f165, b_b1]
                 exact hJ _ _ _ ⟨by simp [f1], by simp [-splice, f1, f162, f165, b_b1], b_b1, l_b1⟩
                clear f1 f162 f165 b_b1 l_b1
                rintro t H n ⟨f1, f166, b_b1, l_b1⟩
                refine Stk.on ?_
                exact Stk.ln 0 (by decide) (hJ25 _ _ _ ⟨x49, h, f1, f166, b_b1, l_b1⟩)
               ·rw [hb25] at f162
                replace h := cF hb25 h
                refine Stk.run 4 (fun t H n => t 1 = .own b1 0 ∧ t 166 = .sc (.bool false) ∧ H b1 = some (.cells (c44 a0) 44) ∧ b1 < n) (fun J hJ => ?_) ?_
                ·simp [-splice, f1, f162, b_b1]
                 exact hJ _ _ _ ⟨by simp [f1], by simp [-splice, f1, f162, b_b1], b_b1, l_b1⟩
                clear f1 f162 b_b1 l_b1
                rintro t H n ⟨f1, f166, b_b1, l_b1⟩
                refine Stk.on ?_
                exact Stk.ln 0 (by decide) (hJ25 _ _ _ ⟨false, h, f1, f166, b_b1, l_b1⟩)
              clear h f1 f162 b_b1 l_b1
              rintro t H n ⟨v48, h, f1, f166, b_b1, l_b1⟩
              subst hK25
              refine Stk.run 1 (fun t H n => t 1 = .own b1 0 ∧ t 167 = .sc (.bool v48) ∧ H b1 = some (.cells (c44 a0) 44) ∧ b1 < n) (fun J hJ => ?_) ?_
              ·simp [-splice, f1, f166, b_b1]
               exact hJ _ _ _ ⟨by simp [f1], by simp [-splice, f1, f166, b_b1], b_b1, l_b1⟩
              clear f1 f166 b_b1 l_b1
              rintro t H n ⟨f1, f167, b_b1, l_b1⟩
              obtain ⟨K26, hK26, h⟩ := jnd h
              refine Stk.jo 4 (fun t H n => ∃ v50 : Bool, K26 v50 = some r ∧ t 171 = .sc (.bool v50)) (fun J26 hJ26 => ?_) ?_
              ·rcases Bool.eq_false_or_eq_true v48 with hb26 | hb26
               ·rw [hb26] at f167
                replace h := cT hb26 h
                refine Stk.run 2 (fun t H n => t 167 = .sc (.bool true) ∧ t 169 = .sc (.int .i64 a0.B)) (fun J hJ => ?_) ?_
                ·simp [-splice, f1, f167, b_b1, ld_44_2_3]
                 exact hJ _ _ _ ⟨by simp [f167], by simp [-splice, f1, f167, b_b1, ld_44_2_3]⟩
                clear f1 f167 b_b1 l_b1
                rintro t H n ⟨f167, f169⟩
                obtain ⟨x51, hx51, h⟩ := bnd h
                refine Stk.cv (g := 36) (args := [.sc (.int .i64 a0.B), .sc (.int .i64 1048576)]) (args' := [.sc (.int .i64 a0.B), .sc (.int .i64 1048576)]) (v := .sc (.bool x51)) [] (ok_R19_below F _ _ _ hx51) (by simp [f167, f169]) rfl rfl (by simp [f167, f169]) (.cons (.free (rfl)) (.cons (.free (rfl)) (.nil))) (.inl ⟨rfl, rfl⟩) (fun t' ht' => ?_)
                refine Stk.gen (fun t H n => t 167 = .sc (.bool true) ∧ t 170 = .sc (.bool x51)) ⟨by simp [ht', f167], by simp [ht']⟩ ?_
                clear f167 f169 ht' t'
                rintro t H n ⟨f167, f170⟩
                refine Stk.run 1 (fun t H n => t 171 = .sc (.bool x51)) (fun J hJ => ?_) ?_
                ·simp [-splice, f167, f170]
                 exact hJ _ _ _ (by simp [-splice, f167, f170])
                clear f167 f170
                rintro t H n f171
                refine Stk.on ?_
                exact Stk.ln 0 (by decide) (hJ26 _ _ _ ⟨x51, h, f171⟩)
               ·rw [hb26] at f167
                replace h := cF hb26 h
                refine Stk.run 4 (fun t H n => t 171 = .sc (.bool false)) (fun J hJ => ?_) ?_
                ·simp [-splice, f1, f167, b_b1]
                 exact hJ _ _ _ (by simp [-splice, f1, f167, b_b1])
                clear f1 f167 b_b1 l_b1
                rintro t H n f171
                refine Stk.on ?_
                exact Stk.ln 0 (by decide) (hJ26 _ _ _ ⟨false, h, f171⟩)
              clear h f1 f167 b_b1 l_b1
              rintro t H n ⟨v50, h, f171⟩
              subst hK26
              refine Stk.run 1 (fun t H n => t 2 = .sc (.bool v50)) (fun J hJ => ?_) ?_
              ·simp [-splice, f171]
               exact hJ _ _ _ (by simp [-splice, f171])
              clear f171
              rintro t H n f2
              refine Stk.on ?_
              refine Stk.rt ?_
              have hq := Option.some.inj h; subst hq
              exact (hr _ _ _ (.sc (.bool v50)) ([]) (by simp [f2]) (.inr (.inr (.free (rfl))))).1
             ·have h := cF hb47 h
              refine Stk.sk ?_
              refine Stk.bn ?_
              refine Stk.sq ?_
              refine Stk.rg ?_
              refine Stk.run 1 (fun t H n => t 2 = .sc (.bool false)) (fun J hJ => ?_) ?_
              ·simp [-splice, f1, f4, f159, b_b1]
               exact hJ _ _ _ (by simp [-splice, f1, f4, f159, b_b1])
              clear f1 f4 f159 b_b1 l_b1
              rintro t H n f2
              refine Stk.on ?_
              refine Stk.rt ?_
              have hq := Option.some.inj h; subst hq
              exact (hr _ _ _ (.sc (.bool false)) ([]) (by simp [f2]) (.inr (.inr (.free (rfl))))).1
theorem ok_R20_Fit (F : Nat) (a0 : api_Code) (r : Bool) (h : R20_Fit F a0 = some r) : RunF Try.prog T.T 13 [.agg (c26 a0)] (.sc (.bool r)) := by
 rw [R20_Fit] at h
 refine RunF.z Try.func13 rfl rfl rfl rfl rfl (fun C hr => ?_)
 refine Stk.gen (fun t H n => t 0 = .agg (c26 a0)) (by simp) ?_
 rintro t H n f0
 refine Stk.sq ?_
 refine Stk.rg ?_
 refine Stk.om (mop_box T.t26 (cs := c26 a0) (by show partOk (t 0) = true; rw [f0]; rfl) (by show cellsOf (t 0) = _; rw [f0]; rfl)) (by simp [f0]) rfl (fun t' ht' => ?_)
 refine Stk.gen (fun t H n => ∃ b1, t 1 = .own b1 0 ∧ H b1 = some (.cells (c26 a0) 26) ∧ b1 < n) ⟨n, by simp [ht'], upd_same _ _ _, Nat.lt_succ_self _⟩ ?_
 clear f0 ht' t'
 rintro t H n ⟨b1, f1, b_b1, l_b1⟩
 refine Stk.run 1 (fun t H n => t 1 = .own b1 0 ∧ H b1 = some (.cells (c26 a0) 26) ∧ b1 < n) (fun J hJ => ?_) ?_
 ·simp [-splice, f1, b_b1]
  exact hJ _ _ _ ⟨by simp [f1], b_b1, l_b1⟩
 clear f1 b_b1 l_b1
 rintro t H n ⟨f1, b_b1, l_b1⟩
 refine Stk.on ?_
 refine Stk.sq ?_
 refine Stk.sq ?_
 refine Stk.rg ?_
 refine Stk.run 5 (fun t H n => t 1 = .own b1 0 ∧ t 13 = .sc (.bool (decide (80 < (a0.Funs.length : Int)))) ∧ H b1 = some (.cells (c26 a0) 26) ∧ b1 < n) (fun J hJ => ?_) ?_
 ·simp [-splice, f1, b_b1, ld_26_0_22]
  exact hJ _ _ _ ⟨by simp [f1], by simp [-splice, f1, b_b1, ld_26_0_22], b_b1, l_b1⟩
 clear f1 b_b1 l_b1
 rintro t H n ⟨f1, f13, b_b1, l_b1⟩
 refine Stk.jo 5 (fun t H n => t 1 = .own b1 0 ∧ t 18 = .sc (.bool ((decide (80 < (a0.Funs.length : Int))) || (decide (4096 < (a0.Texts.length : Int))))) ∧ H b1 = some (.cells (c26 a0) 26) ∧ b1 < n) (fun J1 hJ1 => ?_) ?_
 ·rcases Bool.eq_false_or_eq_true (decide (80 < (a0.Funs.length : Int))) with hb1 | hb1
  ·rw [hb1] at f13
   refine Stk.run 5 (fun t H n => t 1 = .own b1 0 ∧ t 18 = .sc (.bool true) ∧ H b1 = some (.cells (c26 a0) 26) ∧ b1 < n) (fun J hJ => ?_) ?_
   ·simp [-splice, f1, f13, b_b1]
    exact hJ _ _ _ ⟨by simp [f1], by simp [-splice, f1, f13, b_b1], b_b1, l_b1⟩
   clear f1 f13 b_b1 l_b1
   rintro t H n ⟨f1, f18, b_b1, l_b1⟩
   refine Stk.on ?_
   exact Stk.ln 0 (by decide) (hJ1 _ _ _ ⟨f1, f18.trans (congrArg (fun q => AV.sc (.bool q)) (by rw [hb1]; rfl)), b_b1, l_b1⟩)
  ·rw [hb1] at f13
   refine Stk.run 5 (fun t H n => t 1 = .own b1 0 ∧ t 18 = .sc (.bool (decide (4096 < (a0.Texts.length : Int)))) ∧ H b1 = some (.cells (c26 a0) 26) ∧ b1 < n) (fun J hJ => ?_) ?_
   ·simp [-splice, f1, f13, b_b1, ld_26_1_23]
    exact hJ _ _ _ ⟨by simp [f1], by simp [-splice, f1, f13, b_b1, ld_26_1_23], b_b1, l_b1⟩
   clear f1 f13 b_b1 l_b1
   rintro t H n ⟨f1, f18, b_b1, l_b1⟩
   refine Stk.on ?_
   exact Stk.ln 0 (by decide) (hJ1 _ _ _ ⟨f1, f18.trans (congrArg (fun q => AV.sc (.bool q)) (by rw [hb1]; rfl)), b_b1, l_b1⟩)
 clear f1 f13 b_b1 l_b1
 rintro t H n ⟨f1, f18, b_b1, l_b1⟩
 refine Stk.run 1 (fun t H n => t 1 = .own b1 0 ∧ t 19 = .sc (.bool ((decide (80 < (a0.Funs.length : Int))) || (decide (4096 < (a0.Texts.length : Int))))) ∧ H b1 = some (.cells (c26 a0) 26) ∧ b1 < n) (fun J hJ => ?_) ?_
 ·simp [-splice, f1, f18, b_b1]
  exact hJ _ _ _ ⟨by simp [f1], by simp [-splice, f1, f18, b_b1], b_b1, l_b1⟩
 clear f1 f18 b_b1 l_b1
 rintro t H n ⟨f1, f19, b_b1, l_b1⟩
 refine Stk.jo 5 (fun t H n => t 1 = .own b1 0 ∧ t 24 = .sc (.bool (((decide (80 < (a0.Funs.length : Int))) || (decide (4096 < (a0.Texts.length : Int)))) || (decide (65536 < (a0.Tables.length : Int))))) ∧ H b1 = some (.cells (c26 a0) 26) ∧ b1 < n) (fun J2 hJ2 => ?_) ?_
 ·rcases Bool.eq_false_or_eq_true ((decide (80 < (a0.Funs.length : Int))) || (decide (4096 < (a0.Texts.length : Int)))) with hb2 | hb2
  ·rw [hb2] at f19
   refine Stk.run 5 (fun t H n => t 1 = .own b1 0 ∧ t 24 = .sc (.bool true) ∧ H b1 = some (.cells (c26 a0) 26) ∧ b1 < n) (fun J hJ => ?_) ?_
   ·simp [-splice, f1, f19, b_b1]
    exact hJ _ _ _ ⟨by simp [f1], by simp [-splice, f1, f19, b_b1], b_b1, l_b1⟩
   clear f1 f19 b_b1 l_b1
   rintro t H n ⟨f1, f24, b_b1, l_b1⟩
   refine Stk.on ?_
   exact Stk.ln 0 (by decide) (hJ2 _ _ _ ⟨f1, f24.trans (congrArg (fun q => AV.sc (.bool q)) (by rw [hb2]; rfl)), b_b1, l_b1⟩)
  ·rw [hb2] at f19
   refine Stk.run 5 (fun t H n => t 1 = .own b1 0 ∧ t 24 = .sc (.bool (decide (65536 < (a0.Tables.length : Int)))) ∧ H b1 = some (.cells (c26 a0) 26) ∧ b1 < n) (fun J hJ => ?_) ?_
   ·simp [-splice, f1, f19, b_b1, ld_26_2_24]
    exact hJ _ _ _ ⟨by simp [f1], by simp [-splice, f1, f19, b_b1, ld_26_2_24], b_b1, l_b1⟩
   clear f1 f19 b_b1 l_b1
   rintro t H n ⟨f1, f24, b_b1, l_b1⟩
   refine Stk.on ?_
   exact Stk.ln 0 (by decide) (hJ2 _ _ _ ⟨f1, f24.trans (congrArg (fun q => AV.sc (.bool q)) (by rw [hb2]; rfl)), b_b1, l_b1⟩)
 clear f1 f19 b_b1 l_b1
 rintro t H n ⟨f1, f24, b_b1, l_b1⟩
 refine Stk.on ?_
 refine Stk.cond (((decide (80 < (a0.Funs.length : Int))) || (decide (4096 < (a0.Texts.length : Int)))) || (decide (65536 < (a0.Tables.length : Int)))) (by exact f24) (fun hb2 => ?_) (fun hb2 => ?_)
 ·have h := cT hb2 h
  refine Stk.sq ?_
  refine Stk.rg ?_
  refine Stk.run 1 (fun t H n => t 2 = .sc (.bool false)) (fun J hJ => ?_) ?_
  ·simp [-splice, f1, f24, b_b1]
   exact hJ _ _ _ (by simp [-splice, f1, f24, b_b1])
  clear f1 f24 b_b1 l_b1
  rintro t H n f2
  refine Stk.on ?_
  refine Stk.rt ?_
  have hq := Option.some.inj h; subst hq
  exact (hr _ _ _ (.sc (.bool false)) ([]) (by simp [f2]) (.inr (.inr (.free (rfl))))).1
 ·have h := cF hb2 h
  refine Stk.sk ?_
  refine Stk.sq ?_
  refine Stk.sq ?_
  refine Stk.rg ?_
  refine Stk.run 1 (fun t H n => t 1 = .own b1 0 ∧ t 3 = .sc (.int .i64 0) ∧ H b1 = some (.cells (c26 a0) 26) ∧ b1 < n) (fun J hJ => ?_) ?_
  ·simp [-splice, f1, f24, b_b1]
   exact hJ _ _ _ ⟨by simp [f1], by simp [-splice, f1, f24, b_b1], b_b1, l_b1⟩
  clear f1 f24 b_b1 l_b1
  rintro t H n ⟨f1, f3, b_b1, l_b1⟩
  refine Stk.on ?_
  obtain ⟨K3, hK3, h⟩ := jnd h
  refine Stk.jn (fun t H n => K3 () = some r ∧ t 1 = .own b1 0 ∧ H b1 = some (.cells (c26 a0) 26) ∧ b1 < n) trivial (fun J3 hJ3 => ?_) ?_
  ·skip
   refine Stk.bk ?_
   refine Stk.lo (fun μ t H n => ∃ v3 : Int, R20_Fit_L0 F a0 K3 μ v3 = some r ∧ t 1 = .own b1 0 ∧ t 3 = .sc (.int .i64 v3) ∧ H b1 = some (.cells (c26 a0) 26) ∧ b1 < n) F ⟨0, h, f1, f3, b_b1, l_b1⟩ ?_
   clear h f1 f3 b_b1 l_b1
   rintro J4 hJ4 μ t H n ⟨v3, h, f1, f3, b_b1, l_b1⟩
   cases μ with
   | zero => exact absurd h (by simp [R20_Fit_L0])
   | succ μ =>
   rw [R20_Fit_L0] at h
   refine Stk.sq ?_
   refine Stk.sq ?_
   refine Stk.rg ?_
   refine Stk.run 5 (fun t H n => t 1 = .own b1 0 ∧ t 3 = .sc (.int .i64 v3) ∧ t 29 = .sc (.bool (decide (v3 < (a0.Funs.length : Int)))) ∧ H b1 = some (.cells (c26 a0) 26) ∧ b1 < n) (fun J hJ => ?_) ?_
   ·simp [-splice, f1, f3, b_b1, ld_26_0_22]
    exact hJ _ _ _ ⟨by simp [f1], by simp [f3], by simp [-splice, f1, f3, b_b1, ld_26_0_22], b_b1, l_b1⟩
   clear f1 f3 b_b1 l_b1
   rintro t H n ⟨f1, f3, f29, b_b1, l_b1⟩
   refine Stk.on ?_
   refine Stk.cond (decide (v3 < (a0.Funs.length : Int))) (by exact f29) (fun hb5 => ?_) (fun hb5 => ?_)
   ·have h := cT hb5 h
    refine Stk.sk ?_
    refine Stk.sq ?_
    refine Stk.bk ?_
    refine Stk.sq ?_
    refine Stk.rg ?_
    obtain ⟨x6, hx6, h⟩ := bnd h
    obtain ⟨i0x6, i1x6, i2x6, _⟩ := idx_ok hx6
    have ex6_0_41 : partOf T.T 41 (encs c41 a0.Funs) (v3.toNat * 4) = some (.agg (c41 x6)) := by
      have e0 := part_elem0 (e := c41) (z := 4) (T := T.T) (ty := 41) T.t41 (by decide) (by decide) hx6 0 (by decide)
      (try simp only [Nat.mul_one, Nat.add_zero] at e0)
      exact e0.trans (ld_41_0_41 _)
    refine Stk.run 5 (fun t H n => t 1 = .own b1 0 ∧ t 3 = .sc (.int .i64 v3) ∧ t 36 = .agg (c41 x6) ∧ H b1 = some (.cells (c26 a0) 26) ∧ b1 < n) (fun J hJ => ?_) ?_
    ·simp [-splice, f1, f3, f29, b_b1, ld_26_0_22, i0x6, i1x6, pd41, ex6_0_41]
     exact hJ _ _ _ ⟨by simp [f1], by simp [f3], by simp [-splice, f1, f3, f29, b_b1, ld_26_0_22, i0x6, i1x6, pd41, ex6_0_41], b_b1, l_b1⟩
    clear f1 f3 f29 b_b1 l_b1
    rintro t H n ⟨f1, f3, f36, b_b1, l_b1⟩
    refine Stk.oz T.t41 (cs := c41 (api_Func.mk ⟨#[]⟩ 0 0 [])) (by rfl) rfl (by simp [f1, f3, f36]) rfl (fun t' ht' => ?_)
    refine Stk.gen (fun t H n => ∃ b7, t 1 = .own b1 0 ∧ t 3 = .sc (.int .i64 v3) ∧ t 4 = .own b7 0 ∧ t 36 = .agg (c41 x6) ∧ H b1 = some (.cells (c26 a0) 26) ∧ b1 < n ∧ H b7 = some (.cells (c41 (api_Func.mk ⟨#[]⟩ 0 0 [])) 41) ∧ b7 < n ∧ b1 ≠ b7) ⟨n, by simp [ht', f1], by simp [ht', f3], by simp [ht'], by simp [ht', f36], (upd_ne _ _ (Nat.ne_of_lt l_b1)).trans b_b1, Nat.lt_succ_of_lt l_b1, upd_same _ _ _, Nat.lt_succ_self _, Nat.ne_of_lt l_b1⟩ ?_
    clear f1 f3 f36 b_b1 l_b1 ht' t'
    rintro t H n ⟨b7, f1, f3, f4, f36, b_b1, l_b1, b_b7, l_b7, d_b1_b7⟩
    refine Stk.om (mop_store (z := 4) rfl f4 b_b7 f36 (len41 _) (by rw [len41]; decide) (ok41 _) (st_41_0_41 _ _)) (by simp [f1, f3, f4, f36]) rfl (fun t' ht' => ?_)
    refine Stk.gen (fun t H n => t 1 = .own b1 0 ∧ t 3 = .sc (.int .i64 v3) ∧ t 4 = .own b7 0 ∧ H b1 = some (.cells (c26 a0) 26) ∧ b1 < n ∧ H b7 = some (.cells (c41 x6) 41) ∧ b7 < n ∧ b1 ≠ b7) ⟨by simp [ht', f1], by simp [ht', f3], by simp [ht', f4], (upd_ne _ _ d_b1_b7).trans b_b1, l_b1, upd_same _ _ _, l_b7, d_b1_b7⟩ ?_
    clear f1 f3 f4 f36 b_b1 l_b1 b_b7 l_b7 d_b1_b7 ht' t'
    rintro t H n ⟨f1, f3, f4, b_b1, l_b1, b_b7, l_b7, d_b1_b7⟩
    refine Stk.on ?_
    refine Stk.sq ?_
    refine Stk.sq ?_
    refine Stk.rg ?_
    refine Stk.run 5 (fun t H n => t 1 = .own b1 0 ∧ t 3 = .sc (.int .i64 v3) ∧ t 4 = .own b7 0 ∧ t 41 = .sc (.bool (decide (64 < (x6.Name.size : Int)))) ∧ H b1 = some (.cells (c26 a0) 26) ∧ b1 < n ∧ H b7 = some (.cells (c41 x6) 41) ∧ b7 < n ∧ b1 ≠ b7) (fun J hJ => ?_) ?_
    ·simp [-splice, f1, f3, f4, b_b1, b_b7, ld_41_0_9]
     exact hJ _ _ _ ⟨by simp [f1], by simp [f3], by simp [f4], by simp [-splice, f1, f3, f4, b_b1, b_b7, ld_41_0_9], b_b1, l_b1, b_b7, l_b7, d_b1_b7⟩
    clear f1 f3 f4 b_b1 l_b1 b_b7 l_b7 d_b1_b7
    rintro t H n ⟨f1, f3, f4, f41, b_b1, l_b1, b_b7, l_b7, d_b1_b7⟩
    refine Stk.jo 4 (fun t H n => t 1 = .own b1 0 ∧ t 3 = .sc (.int .i64 v3) ∧ t 4 = .own b7 0 ∧ t 45 = .sc (.bool ((decide (64 < (x6.Name.size : Int))) || (decide (x6.Params < 0)))) ∧ H b1 = some (.cells (c26 a0) 26) ∧ b1 < n ∧ H b7 = some (.cells (c41 x6) 41) ∧ b7 < n ∧ b1 ≠ b7) (fun J5 hJ5 => ?_) ?_
    ·rcases Bool.eq_false_or_eq_true (decide (64 < (x6.Name.size : Int))) with hb5 | hb5
     ·rw [hb5] at f41
      refine Stk.run 4 (fun t H n => t 1 = .own b1 0 ∧ t 3 = .sc (.int .i64 v3) ∧ t 4 = .own b7 0 ∧ t 45 = .sc (.bool true) ∧ H b1 = some (.cells (c26 a0) 26) ∧ b1 < n ∧ H b7 = some (.cells (c41 x6) 41) ∧ b7 < n ∧ b1 ≠ b7) (fun J hJ => ?_) ?_
      ·simp [-splice, f1, f3, f4, f41, b_b1, b_b7]
       exact hJ _ _ _ ⟨by simp [f1], by simp [f3], by simp [f4], by simp [-splice, f1, f3, f4, f41, b_b1, b_b7], b_b1, l_b1, b_b7, l_b7, d_b1_b7⟩
      clear f1 f3 f4 f41 b_b1 l_b1 b_b7 l_b7 d_b1_b7
      rintro t H n ⟨f1, f3, f4, f45, b_b1, l_b1, b_b7, l_b7, d_b1_b7⟩
      refine Stk.on ?_
      exact Stk.ln 0 (by decide) (hJ5 _ _ _ ⟨f1, f3, f4, f45.trans (congrArg (fun q => AV.sc (.bool q)) (by rw [hb5]; rfl)), b_b1, l_b1, b_b7, l_b7, d_b1_b7⟩)
     ·rw [hb5] at f41
      refine Stk.run 4 (fun t H n => t 1 = .own b1 0 ∧ t 3 = .sc (.int .i64 v3) ∧ t 4 = .own b7 0 ∧ t 45 = .sc (.bool (decide (x6.Params < 0))) ∧ H b1 = some (.cells (c26 a0) 26) ∧ b1 < n ∧ H b7 = some (.cells (c41 x6) 41) ∧ b7 < n ∧ b1 ≠ b7) (fun J hJ => ?_) ?_
      ·simp [-splice, f1, f3, f4, f41, b_b1, b_b7, ld_41_1_3]
       exact hJ _ _ _ ⟨by simp [f1], by simp [f3], by simp [f4], by simp [-splice, f1, f3, f4, f41, b_b1, b_b7, ld_41_1_3], b_b1, l_b1, b_b7, l_b7, d_b1_b7⟩
      clear f1 f3 f4 f41 b_b1 l_b1 b_b7 l_b7 d_b1_b7
      rintro t H n ⟨f1, f3, f4, f45, b_b1, l_b1, b_b7, l_b7, d_b1_b7⟩
      refine Stk.on ?_
      exact Stk.ln 0 (by decide) (hJ5 _ _ _ ⟨f1, f3, f4, f45.trans (congrArg (fun q => AV.sc (.bool q)) (by rw [hb5]; rfl)), b_b1, l_b1, b_b7, l_b7, d_b1_b7⟩)
    clear f1 f3 f4 f41 b_b1 l_b1 b_b7 l_b7 d_b1_b7
    rintro t H n ⟨f1, f3, f4, f45, b_b1, l_b1, b_b7, l_b7, d_b1_b7⟩
    refine Stk.run 1 (fun t H n => t 1 = .own b1 0 ∧ t 3 = .sc (.int .i64 v3) ∧ t 4 = .own b7 0 ∧ t 46 = .sc (.bool ((decide (64 < (x6.Name.size : Int))) || (decide (x6.Params < 0)))) ∧ H b1 = some (.cells (c26 a0) 26) ∧ b1 < n ∧ H b7 = some (.cells (c41 x6) 41) ∧ b7 < n ∧ b1 ≠ b7) (fun J hJ => ?_) ?_
    ·simp [-splice, f1, f3, f4, f45, b_b1, b_b7]
     exact hJ _ _ _ ⟨by simp [f1], by simp [f3], by simp [f4], by simp [-splice, f1, f3, f4, f45, b_b1, b_b7], b_b1, l_b1, b_b7, l_b7, d_b1_b7⟩
    clear f1 f3 f4 f45 b_b1 l_b1 b_b7 l_b7 d_b1_b7
    rintro t H n ⟨f1, f3, f4, f46, b_b1, l_b1, b_b7, l_b7, d_b1_b7⟩
    refine Stk.jo 4 (fun t H n => t 1 = .own b1 0 ∧ t 3 = .sc (.int .i64 v3) ∧ t 4 = .own b7 0 ∧ t 50 = .sc (.bool (((decide (64 < (x6.Name.size : Int))) || (decide (x6.Params < 0))) || (decide (6 < x6.Params)))) ∧ H b1 = some (.cells (c26 a0) 26) ∧ b1 < n ∧ H b7 = some (.cells (c41 x6) 41) ∧ b7 < n ∧ b1 ≠ b7) (fun J6 hJ6 => ?_) ?_
    ·rcases Bool.eq_false_or_eq_true ((decide (64 < (x6.Name.size : Int))) || (decide (x6.Params < 0))) with hb6 | hb6
     ·rw [hb6] at f46
      refine Stk.run 4 (fun t H n => t 1 = .own b1 0 ∧ t 3 = .sc (.int .i64 v3) ∧ t 4 = .own b7 0 ∧ t 50 = .sc (.bool true) ∧ H b1 = some (.cells (c26 a0) 26) ∧ b1 < n ∧ H b7 = some (.cells (c41 x6) 41) ∧ b7 < n ∧ b1 ≠ b7) (fun J hJ => ?_) ?_
      ·simp [-splice, f1, f3, f4, f46, b_b1, b_b7]
       exact hJ _ _ _ ⟨by simp [f1], by simp [f3], by simp [f4], by simp [-splice, f1, f3, f4, f46, b_b1, b_b7], b_b1, l_b1, b_b7, l_b7, d_b1_b7⟩
      clear f1 f3 f4 f46 b_b1 l_b1 b_b7 l_b7 d_b1_b7
      rintro t H n ⟨f1, f3, f4, f50, b_b1, l_b1, b_b7, l_b7, d_b1_b7⟩
      refine Stk.on ?_
      exact Stk.ln 0 (by decide) (hJ6 _ _ _ ⟨f1, f3, f4, f50.trans (congrArg (fun q => AV.sc (.bool q)) (by rw [hb6]; rfl)), b_b1, l_b1, b_b7, l_b7, d_b1_b7⟩)
     ·rw [hb6] at f46
      refine Stk.run 4 (fun t H n => t 1 = .own b1 0 ∧ t 3 = .sc (.int .i64 v3) ∧ t 4 = .own b7 0 ∧ t 50 = .sc (.bool (decide (6 < x6.Params))) ∧ H b1 = some (.cells (c26 a0) 26) ∧ b1 < n ∧ H b7 = some (.cells (c41 x6) 41) ∧ b7 < n ∧ b1 ≠ b7) (fun J hJ => ?_) ?_
      ·simp [-splice, f1, f3, f4, f46, b_b1, b_b7, ld_41_1_3]
       exact hJ _ _ _ ⟨by simp [f1], by simp [f3], by simp [f4], by simp [-splice, f1, f3, f4, f46, b_b1, b_b7, ld_41_1_3], b_b1, l_b1, b_b7, l_b7, d_b1_b7⟩
      clear f1 f3 f4 f46 b_b1 l_b1 b_b7 l_b7 d_b1_b7
      rintro t H n ⟨f1, f3, f4, f50, b_b1, l_b1, b_b7, l_b7, d_b1_b7⟩
      refine Stk.on ?_
      exact Stk.ln 0 (by decide) (hJ6 _ _ _ ⟨f1, f3, f4, f50.trans (congrArg (fun q => AV.sc (.bool q)) (by rw [hb6]; rfl)), b_b1, l_b1, b_b7, l_b7, d_b1_b7⟩)
    clear f1 f3 f4 f46 b_b1 l_b1 b_b7 l_b7 d_b1_b7
    rintro t H n ⟨f1, f3, f4, f50, b_b1, l_b1, b_b7, l_b7, d_b1_b7⟩
    refine Stk.run 1 (fun t H n => t 1 = .own b1 0 ∧ t 3 = .sc (.int .i64 v3) ∧ t 4 = .own b7 0 ∧ t 51 = .sc (.bool (((decide (64 < (x6.Name.size : Int))) || (decide (x6.Params < 0))) || (decide (6 < x6.Params)))) ∧ H b1 = some (.cells (c26 a0) 26) ∧ b1 < n ∧ H b7 = some (.cells (c41 x6) 41) ∧ b7 < n ∧ b1 ≠ b7) (fun J hJ => ?_) ?_
    ·simp [-splice, f1, f3, f4, f50, b_b1, b_b7]
     exact hJ _ _ _ ⟨by simp [f1], by simp [f3], by simp [f4], by simp [-splice, f1, f3, f4, f50, b_b1, b_b7], b_b1, l_b1, b_b7, l_b7, d_b1_b7⟩
    clear f1 f3 f4 f50 b_b1 l_b1 b_b7 l_b7 d_b1_b7
    rintro t H n ⟨f1, f3, f4, f51, b_b1, l_b1, b_b7, l_b7, d_b1_b7⟩
    refine Stk.jo 4 (fun t H n => t 1 = .own b1 0 ∧ t 3 = .sc (.int .i64 v3) ∧ t 4 = .own b7 0 ∧ t 55 = .sc (.bool ((((decide (64 < (x6.Name.size : Int))) || (decide (x6.Params < 0))) || (decide (6 < x6.Params))) || (decide (x6.Slots < 0)))) ∧ H b1 = some (.cells (c26 a0) 26) ∧ b1 < n ∧ H b7 = some (.cells (c41 x6) 41) ∧ b7 < n ∧ b1 ≠ b7) (fun J7 hJ7 => ?_) ?_
    ·rcases Bool.eq_false_or_eq_true (((decide (64 < (x6.Name.size : Int))) || (decide (x6.Params < 0))) || (decide (6 < x6.Params))) with hb7 | hb7
     ·rw [hb7] at f51
      refine Stk.run 4 (fun t H n => t 1 = .own b1 0 ∧ t 3 = .sc (.int .i64 v3) ∧ t 4 = .own b7 0 ∧ t 55 = .sc (.bool true) ∧ H b1 = some (.cells (c26 a0) 26) ∧ b1 < n ∧ H b7 = some (.cells (c41 x6) 41) ∧ b7 < n ∧ b1 ≠ b7) (fun J hJ => ?_) ?_
      ·simp [-splice, f1, f3, f4, f51, b_b1, b_b7]
       exact hJ _ _ _ ⟨by simp [f1], by simp [f3], by simp [f4], by simp [-splice, f1, f3, f4, f51, b_b1, b_b7], b_b1, l_b1, b_b7, l_b7, d_b1_b7⟩
      clear f1 f3 f4 f51 b_b1 l_b1 b_b7 l_b7 d_b1_b7
      rintro t H n ⟨f1, f3, f4, f55, b_b1, l_b1, b_b7, l_b7, d_b1_b7⟩
      refine Stk.on ?_
      exact Stk.ln 0 (by decide) (hJ7 _ _ _ ⟨f1, f3, f4, f55.trans (congrArg (fun q => AV.sc (.bool q)) (by rw [hb7]; rfl)), b_b1, l_b1, b_b7, l_b7, d_b1_b7⟩)
     ·rw [hb7] at f51
      refine Stk.run 4 (fun t H n => t 1 = .own b1 0 ∧ t 3 = .sc (.int .i64 v3) ∧ t 4 = .own b7 0 ∧ t 55 = .sc (.bool (decide (x6.Slots < 0))) ∧ H b1 = some (.cells (c26 a0) 26) ∧ b1 < n ∧ H b7 = some (.cells (c41 x6) 41) ∧ b7 < n ∧ b1 ≠ b7) (fun J hJ => ?_) ?_
      ·simp [-splice, f1, f3, f4, f51, b_b1, b_b7, ld_41_2_3]
       exact hJ _ _ _ ⟨by simp [f1], by simp [f3], by simp [f4], by simp [-splice, f1, f3, f4, f51, b_b1, b_b7, ld_41_2_3], b_b1, l_b1, b_b7, l_b7, d_b1_b7⟩
      clear f1 f3 f4 f51 b_b1 l_b1 b_b7 l_b7 d_b1_b7
      rintro t H n ⟨f1, f3, f4, f55, b_b1, l_b1, b_b7, l_b7, d_b1_b7⟩
      refine Stk.on ?_
      exact Stk.ln 0 (by decide) (hJ7 _ _ _ ⟨f1, f3, f4, f55.trans (congrArg (fun q => AV.sc (.bool q)) (by rw [hb7]; rfl)), b_b1, l_b1, b_b7, l_b7, d_b1_b7⟩)
    clear f1 f3 f4 f51 b_b1 l_b1 b_b7 l_b7 d_b1_b7
    rintro t H n ⟨f1, f3, f4, f55, b_b1, l_b1, b_b7, l_b7, d_b1_b7⟩
    refine Stk.run 1 (fun t H n => t 1 = .own b1 0 ∧ t 3 = .sc (.int .i64 v3) ∧ t 4 = .own b7 0 ∧ t 56 = .sc (.bool ((((decide (64 < (x6.Name.size : Int))) || (decide (x6.Params < 0))) || (decide (6 < x6.Params))) || (decide (x6.Slots < 0)))) ∧ H b1 = some (.cells (c26 a0) 26) ∧ b1 < n ∧ H b7 = some (.cells (c41 x6) 41) ∧ b7 < n ∧ b1 ≠ b7) (fun J hJ => ?_) ?_
    ·simp [-splice, f1, f3, f4, f55, b_b1, b_b7]
     exact hJ _ _ _ ⟨by simp [f1], by simp [f3], by simp [f4], by simp [-splice, f1, f3, f4, f55, b_b1, b_b7], b_b1, l_b1, b_b7, l_b7, d_b1_b7⟩
    clear f1 f3 f4 f55 b_b1 l_b1 b_b7 l_b7 d_b1_b7
    rintro t H n ⟨f1, f3, f4, f56, b_b1, l_b1, b_b7, l_b7, d_b1_b7⟩
    refine Stk.jo 4 (fun t H n => t 1 = .own b1 0 ∧ t 3 = .sc (.int .i64 v3) ∧ t 4 = .own b7 0 ∧ t 60 = .sc (.bool (((((decide (64 < (x6.Name.size : Int))) || (decide (x6.Params < 0))) || (decide (6 < x6.Params))) || (decide (x6.Slots < 0))) || (decide (8192 < x6.Slots)))) ∧ H b1 = some (.cells (c26 a0) 26) ∧ b1 < n ∧ H b7 = some (.cells (c41 x6) 41) ∧ b7 < n ∧ b1 ≠ b7) (fun J8 hJ8 => ?_) ?_
    ·rcases Bool.eq_false_or_eq_true ((((decide (64 < (x6.Name.size : Int))) || (decide (x6.Params < 0))) || (decide (6 < x6.Params))) || (decide (x6.Slots < 0))) with hb8 | hb8
     ·rw [hb8] at f56
      refine Stk.run 4 (fun t H n => t 1 = .own b1 0 ∧ t 3 = .sc (.int .i64 v3) ∧ t 4 = .own b7 0 ∧ t 60 = .sc (.bool true) ∧ H b1 = some (.cells (c26 a0) 26) ∧ b1 < n ∧ H b7 = some (.cells (c41 x6) 41) ∧ b7 < n ∧ b1 ≠ b7) (fun J hJ => ?_) ?_
      ·simp [-splice, f1, f3, f4, f56, b_b1, b_b7]
       exact hJ _ _ _ ⟨by simp [f1], by simp [f3], by simp [f4], by simp [-splice, f1, f3, f4, f56, b_b1, b_b7], b_b1, l_b1, b_b7, l_b7, d_b1_b7⟩
      clear f1 f3 f4 f56 b_b1 l_b1 b_b7 l_b7 d_b1_b7
      rintro t H n ⟨f1, f3, f4, f60, b_b1, l_b1, b_b7, l_b7, d_b1_b7⟩
      refine Stk.on ?_
      exact Stk.ln 0 (by decide) (hJ8 _ _ _ ⟨f1, f3, f4, f60.trans (congrArg (fun q => AV.sc (.bool q)) (by rw [hb8]; rfl)), b_b1, l_b1, b_b7, l_b7, d_b1_b7⟩)
     ·rw [hb8] at f56
      refine Stk.run 4 (fun t H n => t 1 = .own b1 0 ∧ t 3 = .sc (.int .i64 v3) ∧ t 4 = .own b7 0 ∧ t 60 = .sc (.bool (decide (8192 < x6.Slots))) ∧ H b1 = some (.cells (c26 a0) 26) ∧ b1 < n ∧ H b7 = some (.cells (c41 x6) 41) ∧ b7 < n ∧ b1 ≠ b7) (fun J hJ => ?_) ?_
      ·simp [-splice, f1, f3, f4, f56, b_b1, b_b7, ld_41_2_3]
       exact hJ _ _ _ ⟨by simp [f1], by simp [f3], by simp [f4], by simp [-splice, f1, f3, f4, f56, b_b1, b_b7, ld_41_2_3], b_b1, l_b1, b_b7, l_b7, d_b1_b7⟩
      clear f1 f3 f4 f56 b_b1 l_b1 b_b7 l_b7 d_b1_b7
      rintro t H n ⟨f1, f3, f4, f60, b_b1, l_b1, b_b7, l_b7, d_b1_b7⟩
      refine Stk.on ?_
      exact Stk.ln 0 (by decide) (hJ8 _ _ _ ⟨f1, f3, f4, f60.trans (congrArg (fun q => AV.sc (.bool q)) (by rw [hb8]; rfl)), b_b1, l_b1, b_b7, l_b7, d_b1_b7⟩)
    clear f1 f3 f4 f56 b_b1 l_b1 b_b7 l_b7 d_b1_b7
    rintro t H n ⟨f1, f3, f4, f60, b_b1, l_b1, b_b7, l_b7, d_b1_b7⟩
    refine Stk.run 1 (fun t H n => t 1 = .own b1 0 ∧ t 3 = .sc (.int .i64 v3) ∧ t 4 = .own b7 0 ∧ t 61 = .sc (.bool (((((decide (64 < (x6.Name.size : Int))) || (decide (x6.Params < 0))) || (decide (6 < x6.Params))) || (decide (x6.Slots < 0))) || (decide (8192 < x6.Slots)))) ∧ H b1 = some (.cells (c26 a0) 26) ∧ b1 < n ∧ H b7 = some (.cells (c41 x6) 41) ∧ b7 < n ∧ b1 ≠ b7) (fun J hJ => ?_) ?_
    ·simp [-splice, f1, f3, f4, f60, b_b1, b_b7]
     exact hJ _ _ _ ⟨by simp [f1], by simp [f3], by simp [f4], by simp [-splice, f1, f3, f4, f60, b_b1, b_b7], b_b1, l_b1, b_b7, l_b7, d_b1_b7⟩
    clear f1 f3 f4 f60 b_b1 l_b1 b_b7 l_b7 d_b1_b7
    rintro t H n ⟨f1, f3, f4, f61, b_b1, l_b1, b_b7, l_b7, d_b1_b7⟩
    refine Stk.jo 5 (fun t H n => t 1 = .own b1 0 ∧ t 3 = .sc (.int .i64 v3) ∧ t 4 = .own b7 0 ∧ t 66 = .sc (.bool ((((((decide (64 < (x6.Name.size : Int))) || (decide (x6.Params < 0))) || (decide (6 < x6.Params))) || (decide (x6.Slots < 0))) || (decide (8192 < x6.Slots))) || (decide ((x6.Code.length : Int) < 1)))) ∧ H b1 = some (.cells (c26 a0) 26) ∧ b1 < n ∧ H b7 = some (.cells (c41 x6) 41) ∧ b7 < n ∧ b1 ≠ b7) (fun J9 hJ9 => ?_) ?_
    ·rcases Bool.eq_false_or_eq_true (((((decide (64 < (x6.Name.size : Int))) || (decide (x6.Params < 0))) || (decide (6 < x6.Params))) || (decide (x6.Slots < 0))) || (decide (8192 < x6.Slots))) with hb9 | hb9
     ·rw [hb9] at f61
      refine Stk.run 5 (fun t H n => t 1 = .own b1 0 ∧ t 3 = .sc (.int .i64 v3) ∧ t 4 = .own b7 0 ∧ t 66 = .sc (.bool true) ∧ H b1 = some (.cells (c26 a0) 26) ∧ b1 < n ∧ H b7 = some (.cells (c41 x6) 41) ∧ b7 < n ∧ b1 ≠ b7) (fun J hJ => ?_) ?_
      ·simp [-splice, f1, f3, f4, f61, b_b1, b_b7]
       exact hJ _ _ _ ⟨by simp [f1], by simp [f3], by simp [f4], by simp [-splice, f1, f3, f4, f61, b_b1, b_b7], b_b1, l_b1, b_b7, l_b7, d_b1_b7⟩
      clear f1 f3 f4 f61 b_b1 l_b1 b_b7 l_b7 d_b1_b7
      rintro t H n ⟨f1, f3, f4, f66, b_b1, l_b1, b_b7, l_b7, d_b1_b7⟩
      refine Stk.on ?_
      exact Stk.ln 0 (by decide) (hJ9 _ _ _ ⟨f1, f3, f4, f66.trans (congrArg (fun q => AV.sc (.bool q)) (by rw [hb9]; rfl)), b_b1, l_b1, b_b7, l_b7, d_b1_b7⟩)
     ·rw [hb9] at f61
      refine Stk.run 5 (fun t H n => t 1 = .own b1 0 ∧ t 3 = .sc (.int .i64 v3) ∧ t 4 = .own b7 0 ∧ t 66 = .sc (.bool (decide ((x6.Code.length : Int) < 1))) ∧ H b1 = some (.cells (c26 a0) 26) ∧ b1 < n ∧ H b7 = some (.cells (c41 x6) 41) ∧ b7 < n ∧ b1 ≠ b7) (fun J hJ => ?_) ?_
      ·simp [-splice, f1, f3, f4, f61, b_b1, b_b7, ld_41_3_39]
       exact hJ _ _ _ ⟨by simp [f1], by simp [f3], by simp [f4], by simp [-splice, f1, f3, f4, f61, b_b1, b_b7, ld_41_3_39], b_b1, l_b1, b_b7, l_b7, d_b1_b7⟩
      clear f1 f3 f4 f61 b_b1 l_b1 b_b7 l_b7 d_b1_b7
      rintro t H n ⟨f1, f3, f4, f66, b_b1, l_b1, b_b7, l_b7, d_b1_b7⟩
      refine Stk.on ?_
      exact Stk.ln 0 (by decide) (hJ9 _ _ _ ⟨f1, f3, f4, f66.trans (congrArg (fun q => AV.sc (.bool q)) (by rw [hb9]; rfl)), b_b1, l_b1, b_b7, l_b7, d_b1_b7⟩)
    clear f1 f3 f4 f61 b_b1 l_b1 b_b7 l_b7 d_b1_b7
    rintro t H n ⟨f1, f3, f4, f66, b_b1, l_b1, b_b7, l_b7, d_b1_b7⟩
    refine Stk.run 1 (fun t H n => t 1 = .own b1 0 ∧ t 3 = .sc (.int .i64 v3) ∧ t 4 = .own b7 0 ∧ t 67 = .sc (.bool ((((((decide (64 < (x6.Name.size : Int))) || (decide (x6.Params < 0))) || (decide (6 < x6.Params))) || (decide (x6.Slots < 0))) || (decide (8192 < x6.Slots))) || (decide ((x6.Code.length : Int) < 1)))) ∧ H b1 = some (.cells (c26 a0) 26) ∧ b1 < n ∧ H b7 = some (.cells (c41 x6) 41) ∧ b7 < n ∧ b1 ≠ b7) (fun J hJ => ?_) ?_
    ·simp [-splice, f1, f3, f4, f66, b_b1, b_b7]
     exact hJ _ _ _ ⟨by simp [f1], by simp [f3], by simp [f4], by simp [-splice, f1, f3, f4, f66, b_b1, b_b7], b_b1, l_b1, b_b7, l_b7, d_b1_b7⟩
    clear f1 f3 f4 f66 b_b1 l_b1 b_b7 l_b7 d_b1_b7
    rintro t H n ⟨f1, f3, f4, f67, b_b1, l_b1, b_b7, l_b7, d_b1_b7⟩
    refine Stk.jo 5 (fun t H n => t 1 = .own b1 0 ∧ t 3 = .sc (.int .i64 v3) ∧ t 4 = .own b7 0 ∧ t 72 = .sc (.bool (((((((decide (64 < (x6.Name.size : Int))) || (decide (x6.Params < 0))) || (decide (6 < x6.Params))) || (decide (x6.Slots < 0))) || (decide (8192 < x6.Slots))) || (decide ((x6.Code.length : Int) < 1))) || (decide (1048576 < (x6.Code.length : Int))))) ∧ H b1 = some (.cells (c26 a0) 26) ∧ b1 < n ∧ H b7 = some (.cells (c41 x6) 41) ∧ b7 < n ∧ b1 ≠ b7) (fun J10 hJ10 => ?_) ?_
    ·rcases Bool.eq_false_or_eq_true ((((((decide (64 < (x6.Name.size : Int))) || (decide (x6.Params < 0))) || (decide (6 < x6.Params))) || (decide (x6.Slots < 0))) || (decide (8192 < x6.Slots))) || (decide ((x6.Code.length : Int) < 1))) with hb10 | hb10
     ·rw [hb10] at f67
      refine Stk.run 5 (fun t H n => t 1 = .own b1 0 ∧ t 3 = .sc (.int .i64 v3) ∧ t 4 = .own b7 0 ∧ t 72 = .sc (.bool true) ∧ H b1 = some (.cells (c26 a0) 26) ∧ b1 < n ∧ H b7 = some (.cells (c41 x6) 41) ∧ b7 < n ∧ b1 ≠ b7) (fun J hJ => ?_) ?_
      ·simp [-splice, f1, f3, f4, f67, b_b1, b_b7]
       exact hJ _ _ _ ⟨by simp [f1], by simp [f3], by simp [f4], by simp [-splice, f1, f3, f4, f67, b_b1, b_b7], b_b1, l_b1, b_b7, l_b7, d_b1_b7⟩
      clear f1 f3 f4 f67 b_b1 l_b1 b_b7 l_b7 d_b1_b7
      rintro t H n ⟨f1, f3, f4, f72, b_b1, l_b1, b_b7, l_b7, d_b1_b7⟩
      refine Stk.on ?_
      exact Stk.ln 0 (by decide) (hJ10 _ _ _ ⟨f1, f3, f4, f72.trans (congrArg (fun q => AV.sc (.bool q)) (by rw [hb10]; rfl)), b_b1, l_b1, b_b7, l_b7, d_b1_b7⟩)
     ·rw [hb10] at f67
      refine Stk.run 5 (fun t H n => t 1 = .own b1 0 ∧ t 3 = .sc (.int .i64 v3) ∧ t 4 = .own b7 0 ∧ t 72 = .sc (.bool (decide (1048576 < (x6.Code.length : Int)))) ∧ H b1 = some (.cells (c26 a0) 26) ∧ b1 < n ∧ H b7 = some (.cells (c41 x6) 41) ∧ b7 < n ∧ b1 ≠ b7) (fun J hJ => ?_) ?_
      ·simp [-splice, f1, f3, f4, f67, b_b1, b_b7, ld_41_3_39]
       exact hJ _ _ _ ⟨by simp [f1], by simp [f3], by simp [f4], by simp [-splice, f1, f3, f4, f67, b_b1, b_b7, ld_41_3_39], b_b1, l_b1, b_b7, l_b7, d_b1_b7⟩
      clear f1 f3 f4 f67 b_b1 l_b1 b_b7 l_b7 d_b1_b7
      rintro t H n ⟨f1, f3, f4, f72, b_b1, l_b1, b_b7, l_b7, d_b1_b7⟩
      refine Stk.on ?_
      exact Stk.ln 0 (by decide) (hJ10 _ _ _ ⟨f1, f3, f4, f72.trans (congrArg (fun q => AV.sc (.bool q)) (by rw [hb10]; rfl)), b_b1, l_b1, b_b7, l_b7, d_b1_b7⟩)
    clear f1 f3 f4 f67 b_b1 l_b1 b_b7 l_b7 d_b1_b7
    rintro t H n ⟨f1, f3, f4, f72, b_b1, l_b1, b_b7, l_b7, d_b1_b7⟩
    refine Stk.on ?_
    refine Stk.cond (((((((decide (64 < (x6.Name.size : Int))) || (decide (x6.Params < 0))) || (decide (6 < x6.Params))) || (decide (x6.Slots < 0))) || (decide (8192 < x6.Slots))) || (decide ((x6.Code.length : Int) < 1))) || (decide (1048576 < (x6.Code.length : Int)))) (by exact f72) (fun hb8 => ?_) (fun hb8 => ?_)
    ·have h := cT hb8 h
     refine Stk.sq ?_
     refine Stk.rg ?_
     refine Stk.run 1 (fun t H n => t 2 = .sc (.bool false)) (fun J hJ => ?_) ?_
     ·simp [-splice, f1, f3, f4, f72, b_b1, b_b7]
      exact hJ _ _ _ (by simp [-splice, f1, f3, f4, f72, b_b1, b_b7])
     clear f1 f3 f4 f72 b_b1 l_b1 b_b7 l_b7 d_b1_b7
     rintro t H n f2
     refine Stk.on ?_
     refine Stk.rt ?_
     have hq := Option.some.inj h; subst hq
     exact (hr _ _ _ (.sc (.bool false)) ([]) (by simp [f2]) (.inr (.inr (.free (rfl))))).1
    ·have h := cF hb8 h
     refine Stk.sk ?_
     refine Stk.sq ?_
     refine Stk.rg ?_
     refine Stk.run 1 (fun t H n => t 1 = .own b1 0 ∧ t 3 = .sc (.int .i64 v3) ∧ t 4 = .own b7 0 ∧ t 5 = .sc (.int .i64 0) ∧ H b1 = some (.cells (c26 a0) 26) ∧ b1 < n ∧ H b7 = some (.cells (c41 x6) 41) ∧ b7 < n ∧ b1 ≠ b7) (fun J hJ => ?_) ?_
     ·simp [-splice, f1, f3, f4, f72, b_b1, b_b7]
      exact hJ _ _ _ ⟨by simp [f1], by simp [f3], by simp [f4], by simp [-splice, f1, f3, f4, f72, b_b1, b_b7], b_b1, l_b1, b_b7, l_b7, d_b1_b7⟩
     clear f1 f3 f4 f72 b_b1 l_b1 b_b7 l_b7 d_b1_b7
     rintro t H n ⟨f1, f3, f4, f5, b_b1, l_b1, b_b7, l_b7, d_b1_b7⟩
     refine Stk.on ?_
     obtain ⟨K11, hK11, h⟩ := jnd h
     refine Stk.jn (fun t H n => K11 () = some r ∧ t 1 = .own b1 0 ∧ t 3 = .sc (.int .i64 v3) ∧ H b1 = some (.cells (c26 a0) 26) ∧ b1 < n) trivial (fun J11 hJ11 => ?_) ?_
     ·skip
      refine Stk.bk ?_
      refine Stk.lo (fun μ t H n => ∃ v9 : Int, R20_Fit_L1 F x6 K11 μ v9 = some r ∧ t 1 = .own b1 0 ∧ t 3 = .sc (.int .i64 v3) ∧ t 4 = .own b7 0 ∧ t 5 = .sc (.int .i64 v9) ∧ H b1 = some (.cells (c26 a0) 26) ∧ b1 < n ∧ H b7 = some (.cells (c41 x6) 41) ∧ b7 < n ∧ b1 ≠ b7) F ⟨0, h, f1, f3, f4, f5, b_b1, l_b1, b_b7, l_b7, d_b1_b7⟩ ?_
      clear h f1 f3 f4 f5 b_b1 l_b1 b_b7 l_b7 d_b1_b7
      rintro J12 hJ12 μ t H n ⟨v9, h, f1, f3, f4, f5, b_b1, l_b1, b_b7, l_b7, d_b1_b7⟩
      cases μ with
      | zero => exact absurd h (by simp [R20_Fit_L1])
      | succ μ =>
      rw [R20_Fit_L1] at h
      refine Stk.sq ?_
      refine Stk.sq ?_
      refine Stk.rg ?_
      refine Stk.run 5 (fun t H n => t 1 = .own b1 0 ∧ t 3 = .sc (.int .i64 v3) ∧ t 4 = .own b7 0 ∧ t 5 = .sc (.int .i64 v9) ∧ t 77 = .sc (.bool (decide (v9 < (x6.Code.length : Int)))) ∧ H b1 = some (.cells (c26 a0) 26) ∧ b1 < n ∧ H b7 = some (.cells (c41 x6) 41) ∧ b7 < n ∧ b1 ≠ b7) (fun J hJ => ?_) ?_
      ·simp [-splice, f1, f3, f4, f5, b_b1, b_b7, ld_41_3_39]
       exact hJ _ _ _ ⟨by simp [f1], by simp [f3], by simp [f4], by simp [f5], by simp [-splice, f1, f3, f4, f5, b_b1, b_b7, ld_41_3_39], b_b1, l_b1, b_b7, l_b7, d_b1_b7⟩
      clear f1 f3 f4 f5 b_b1 l_b1 b_b7 l_b7 d_b1_b7
      rintro t H n ⟨f1, f3, f4, f5, f77, b_b1, l_b1, b_b7, l_b7, d_b1_b7⟩
      refine Stk.on ?_
      refine Stk.cond (decide (v9 < (x6.Code.length : Int))) (by exact f77) (fun hb11 => ?_) (fun hb11 => ?_)
      ·have h := cT hb11 h
       refine Stk.sk ?_
       refine Stk.sq ?_
       refine Stk.bk ?_
       refine Stk.sq ?_
       refine Stk.rg ?_
       obtain ⟨x12, hx12, h⟩ := bnd h
       obtain ⟨i0x12, i1x12, i2x12, _⟩ := idx_ok hx12
       have ex12_0_44 : partOf T.T 44 (encs c44 x6.Code) (v9.toNat * 4) = some (.agg (c44 x12)) := by
         have e0 := part_elem0 (e := c44) (z := 4) (T := T.T) (ty := 44) T.t44 (by decide) (by decide) hx12 0 (by decide)
         (try simp only [Nat.mul_one, Nat.add_zero] at e0)
         exact e0.trans (ld_44_0_44 _)
       refine Stk.run 5 (fun t H n => t 1 = .own b1 0 ∧ t 3 = .sc (.int .i64 v3) ∧ t 4 = .own b7 0 ∧ t 5 = .sc (.int .i64 v9) ∧ t 84 = .agg (c44 x12) ∧ H b1 = some (.cells (c26 a0) 26) ∧ b1 < n ∧ H b7 = some (.cells (c41 x6) 41) ∧ b7 < n ∧ b1 ≠ b7) (fun J hJ => ?_) ?_
       ·simp [-splice, f1, f3, f4, f5, f77, b_b1, b_b7, ld_41_3_39, i0x12, i1x12, pd44, ex12_0_44]
        exact hJ _ _ _ ⟨by simp [f1], by simp [f3], by simp [f4], by simp [f5], by simp [-splice, f1, f3, f4, f5, f77, b_b1, b_b7, ld_41_3_39, i0x12, i1x12, pd44, ex12_0_44], b_b1, l_b1, b_b7, l_b7, d_b1_b7⟩
       clear f1 f3 f4 f5 f77 b_b1 l_b1 b_b7 l_b7 d_b1_b7
       rintro t H n ⟨f1, f3, f4, f5, f84, b_b1, l_b1, b_b7, l_b7, d_b1_b7⟩
       obtain ⟨x13, hx13, h⟩ := bnd h
       refine Stk.cv (g := 21) (args := [.agg (c44 x12)]) (args' := [.agg (c44 x12)]) (v := .sc (.bool x13)) [] (ok_R19_Fit F _ _ hx13) (by simp [f1, f3, f4, f5, f84]) rfl rfl (by simp [f1, f3, f4, f5, f84]) (.cons (.free (fr44 _)) (.nil)) (.inl ⟨rfl, rfl⟩) (fun t' ht' => ?_)
       refine Stk.gen (fun t H n => t 1 = .own b1 0 ∧ t 3 = .sc (.int .i64 v3) ∧ t 4 = .own b7 0 ∧ t 5 = .sc (.int .i64 v9) ∧ t 85 = .sc (.bool x13) ∧ H b1 = some (.cells (c26 a0) 26) ∧ b1 < n ∧ H b7 = some (.cells (c41 x6) 41) ∧ b7 < n ∧ b1 ≠ b7) ⟨by simp [ht', f1], by simp [ht', f3], by simp [ht', f4], by simp [ht', f5], by simp [ht'], b_b1, l_b1, b_b7, l_b7, d_b1_b7⟩ ?_
       clear f1 f3 f4 f5 f84 b_b1 l_b1 b_b7 l_b7 d_b1_b7 ht' t'
       rintro t H n ⟨f1, f3, f4, f5, f85, b_b1, l_b1, b_b7, l_b7, d_b1_b7⟩
       refine Stk.run 1 (fun t H n => t 1 = .own b1 0 ∧ t 3 = .sc (.int .i64 v3) ∧ t 4 = .own b7 0 ∧ t 5 = .sc (.int .i64 v9) ∧ t 86 = .sc (.bool (!x13)) ∧ H b1 = some (.cells (c26 a0) 26) ∧ b1 < n ∧ H b7 = some (.cells (c41 x6) 41) ∧ b7 < n ∧ b1 ≠ b7) (fun J hJ => ?_) ?_
       ·simp [-splice, f1, f3, f4, f5, f85, b_b1, b_b7]
        exact hJ _ _ _ ⟨by simp [f1], by simp [f3], by simp [f4], by simp [f5], by simp [-splice, f1, f3, f4, f5, f85, b_b1, b_b7], b_b1, l_b1, b_b7, l_b7, d_b1_b7⟩
       clear f1 f3 f4 f5 f85 b_b1 l_b1 b_b7 l_b7 d_b1_b7
       rintro t H n ⟨f1, f3, f4, f5, f86, b_b1, l_b1, b_b7, l_b7, d_b1_b7⟩
       refine Stk.on ?_
       refine Stk.cond (!x13) (by exact f86) (fun hb14 => ?_) (fun hb14 => ?_)
       ·have h := cT hb14 h
        refine Stk.sq ?_
        refine Stk.rg ?_
        refine Stk.run 1 (fun t H n => t 2 = .sc (.bool false)) (fun J hJ => ?_) ?_
        ·simp [-splice, f1, f3, f4, f5, f86, b_b1, b_b7]
         exact hJ _ _ _ (by simp [-splice, f1, f3, f4, f5, f86, b_b1, b_b7])
        clear f1 f3 f4 f5 f86 b_b1 l_b1 b_b7 l_b7 d_b1_b7
        rintro t H n f2
        refine Stk.on ?_
        refine Stk.rt ?_
        have hq := Option.some.inj h; subst hq
        exact (hr _ _ _ (.sc (.bool false)) ([]) (by simp [f2]) (.inr (.inr (.free (rfl))))).1
       ·have h := cF hb14 h
        refine Stk.sk ?_
        refine Stk.bn ?_
        refine Stk.rg ?_
        refine Stk.run 3 (fun t H n => t 1 = .own b1 0 ∧ t 3 = .sc (.int .i64 v3) ∧ t 4 = .own b7 0 ∧ t 5 = .sc (.int .i64 (IntKind.i64.wrap (v9 + 1))) ∧ H b1 = some (.cells (c26 a0) 26) ∧ b1 < n ∧ H b7 = some (.cells (c41 x6) 41) ∧ b7 < n ∧ b1 ≠ b7) (fun J hJ => ?_) ?_
        ·simp [-splice, f1, f3, f4, f5, f86, b_b1, b_b7]
         exact hJ _ _ _ ⟨by simp [f1], by simp [f3], by simp [f4], by simp [-splice, f1, f3, f4, f5, f86, b_b1, b_b7], b_b1, l_b1, b_b7, l_b7, d_b1_b7⟩
        clear f1 f3 f4 f5 f86 b_b1 l_b1 b_b7 l_b7 d_b1_b7
        rintro t H n ⟨f1, f3, f4, f5, b_b1, l_b1, b_b7, l_b7, d_b1_b7⟩
        refine Stk.on ?_
        exact Stk.ln μ (Nat.lt_succ_self _) (hJ12 _ _ _ _ ⟨(IntKind.i64.wrap (v9 + 1)), h, f1, f3, f4, f5, b_b1, l_b1, b_b7, l_b7, d_b1_b7⟩)
      ·have h := cF hb11 h
       refine Stk.ex rfl ?_
       exact Stk.ln 0 (by decide) (hJ11 _ _ _ ⟨h, f1, f3, b_b1, l_b1⟩)
     clear h f1 f3 f4 f5 b_b1 l_b1 b_b7 l_b7 d_b1_b7
     rintro t H n ⟨h, f1, f3, b_b1, l_b1⟩
     subst hK11
     refine Stk.bn ?_
     refine Stk.rg ?_
     refine Stk.run 3 (fun t H n => t 1 = .own b1 0 ∧ t 3 = .sc (.int .i64 (IntKind.i64.wrap (v3 + 1))) ∧ H b1 = some (.cells (c26 a0) 26) ∧ b1 < n) (fun J hJ => ?_) ?_
     ·simp [-splice, f1, f3, b_b1]
      exact hJ _ _ _ ⟨by simp [f1], by simp [-splice, f1, f3, b_b1], b_b1, l_b1⟩
     clear f1 f3 b_b1 l_b1
     rintro t H n ⟨f1, f3, b_b1, l_b1⟩
     refine Stk.on ?_
     exact Stk.ln μ (Nat.lt_succ_self _) (hJ4 _ _ _ _ ⟨(IntKind.i64.wrap (v3 + 1)), h, f1, f3, b_b1, l_b1⟩)
   ·have h := cF hb5 h
    refine Stk.ex rfl ?_
    exact Stk.ln 0 (by decide) (hJ3 _ _ _ ⟨h, f1, b_b1, l_b1⟩)
  clear h f1 f3 b_b1 l_b1
  rintro t H n ⟨h, f1, b_b1, l_b1⟩
  subst hK3
  refine Stk.sq ?_
  refine Stk.sq ?_
  refine Stk.rg ?_
  refine Stk.run 1 (fun t H n => t 1 = .own b1 0 ∧ t 6 = .sc (.int .i64 0) ∧ H b1 = some (.cells (c26 a0) 26) ∧ b1 < n) (fun J hJ => ?_) ?_
  ·simp [-splice, f1, b_b1]
   exact hJ _ _ _ ⟨by simp [f1], by simp [-splice, f1, b_b1], b_b1, l_b1⟩
  clear f1 b_b1 l_b1
  rintro t H n ⟨f1, f6, b_b1, l_b1⟩
  refine Stk.on ?_
  obtain ⟨K13, hK13, h⟩ := jnd h
  refine Stk.jn (fun t H n => K13 () = some r ∧ t 1 = .own b1 0 ∧ H b1 = some (.cells (c26 a0) 26) ∧ b1 < n) trivial (fun J13 hJ13 => ?_) ?_
  ·skip
   refine Stk.bk ?_
   refine Stk.lo (fun μ t H n => ∃ v15 : Int, R20_Fit_L2 F a0 K13 μ v15 = some r ∧ t 1 = .own b1 0 ∧ t 6 = .sc (.int .i64 v15) ∧ H b1 = some (.cells (c26 a0) 26) ∧ b1 < n) F ⟨0, h, f1, f6, b_b1, l_b1⟩ ?_
   clear h f1 f6 b_b1 l_b1
   rintro J14 hJ14 μ t H n ⟨v15, h, f1, f6, b_b1, l_b1⟩
   cases μ with
   | zero => exact absurd h (by simp [R20_Fit_L2])
   | succ μ =>
   rw [R20_Fit_L2] at h
   refine Stk.sq ?_
   refine Stk.sq ?_
   refine Stk.rg ?_
   refine Stk.run 5 (fun t H n => t 1 = .own b1 0 ∧ t 6 = .sc (.int .i64 v15) ∧ t 91 = .sc (.bool (decide (v15 < (a0.Texts.length : Int)))) ∧ H b1 = some (.cells (c26 a0) 26) ∧ b1 < n) (fun J hJ => ?_) ?_
   ·simp [-splice, f1, f6, b_b1, ld_26_1_23]
    exact hJ _ _ _ ⟨by simp [f1], by simp [f6], by simp [-splice, f1, f6, b_b1, ld_26_1_23], b_b1, l_b1⟩
   clear f1 f6 b_b1 l_b1
   rintro t H n ⟨f1, f6, f91, b_b1, l_b1⟩
   refine Stk.on ?_
   refine Stk.cond (decide (v15 < (a0.Texts.length : Int))) (by exact f91) (fun hb17 => ?_) (fun hb17 => ?_)
   ·have h := cT hb17 h
    refine Stk.sk ?_
    refine Stk.sq ?_
    refine Stk.bk ?_
    refine Stk.sq ?_
    refine Stk.rg ?_
    obtain ⟨x18, hx18, h⟩ := bnd h
    obtain ⟨i0x18, i1x18, i2x18, _⟩ := idx_ok hx18
    have ex18_0_51 : partOf T.T 51 (encs c51 a0.Texts) (v15.toNat) = some (.ssl (encs c5 x18) x18.length false) := by
      have e0 := part_elem0 (e := c51) (z := 1) (T := T.T) (ty := 51) T.t51 (by decide) (by decide) hx18 0 (by decide)
      (try simp only [Nat.mul_one, Nat.add_zero] at e0)
      exact e0.trans rfl
    refine Stk.run 7 (fun t H n => t 1 = .own b1 0 ∧ t 6 = .sc (.int .i64 v15) ∧ t 100 = .sc (.bool (decide (64 < (x18.length : Int)))) ∧ H b1 = some (.cells (c26 a0) 26) ∧ b1 < n) (fun J hJ => ?_) ?_
    ·simp [-splice, f1, f6, f91, b_b1, ld_26_1_23, i0x18, i1x18, pd51, ex18_0_51]
     exact hJ _ _ _ ⟨by simp [f1], by simp [f6], by simp [-splice, f1, f6, f91, b_b1, ld_26_1_23, i0x18, i1x18, pd51, ex18_0_51], b_b1, l_b1⟩
    clear f1 f6 f91 b_b1 l_b1
    rintro t H n ⟨f1, f6, f100, b_b1, l_b1⟩
    refine Stk.on ?_
    refine Stk.cond (decide (64 < (x18.length : Int))) (by exact f100) (fun hb19 => ?_) (fun hb19 => ?_)
    ·have h := cT hb19 h
     refine Stk.sq ?_
     refine Stk.rg ?_
     refine Stk.run 1 (fun t H n => t 2 = .sc (.bool false)) (fun J hJ => ?_) ?_
     ·simp [-splice, f1, f6, f100, b_b1]
      exact hJ _ _ _ (by simp [-splice, f1, f6, f100, b_b1])
     clear f1 f6 f100 b_b1 l_b1
     rintro t H n f2
     refine Stk.on ?_
     refine Stk.rt ?_
     have hq := Option.some.inj h; subst hq
     exact (hr _ _ _ (.sc (.bool false)) ([]) (by simp [f2]) (.inr (.inr (.free (rfl))))).1
    ·have h := cF hb19 h
     refine Stk.sk ?_
     refine Stk.bn ?_
     refine Stk.rg ?_
     refine Stk.run 3 (fun t H n => t 1 = .own b1 0 ∧ t 6 = .sc (.int .i64 (IntKind.i64.wrap (v15 + 1))) ∧ H b1 = some (.cells (c26 a0) 26) ∧ b1 < n) (fun J hJ => ?_) ?_
     ·simp [-splice, f1, f6, f100, b_b1]
      exact hJ _ _ _ ⟨by simp [f1], by simp [-splice, f1, f6, f100, b_b1], b_b1, l_b1⟩
     clear f1 f6 f100 b_b1 l_b1
     rintro t H n ⟨f1, f6, b_b1, l_b1⟩
     refine Stk.on ?_
     exact Stk.ln μ (Nat.lt_succ_self _) (hJ14 _ _ _ _ ⟨(IntKind.i64.wrap (v15 + 1)), h, f1, f6, b_b1, l_b1⟩)
   ·have h := cF hb17 h
    refine Stk.ex rfl ?_
    exact Stk.ln 0 (by decide) (hJ13 _ _ _ ⟨h, f1, b_b1, l_b1⟩)
  clear h f1 f6 b_b1 l_b1
  rintro t H n ⟨h, f1, b_b1, l_b1⟩
  subst hK13
  refine Stk.sq ?_
  refine Stk.sq ?_
  refine Stk.rg ?_
  refine Stk.run 1 (fun t H n => t 1 = .own b1 0 ∧ t 7 = .sc (.int .i64 0) ∧ H b1 = some (.cells (c26 a0) 26) ∧ b1 < n) (fun J hJ => ?_) ?_
  ·simp [-splice, f1, b_b1]
   exact hJ _ _ _ ⟨by simp [f1], by simp [-splice, f1, b_b1], b_b1, l_b1⟩
  clear f1 b_b1 l_b1
  rintro t H n ⟨f1, f7, b_b1, l_b1⟩
  refine Stk.on ?_
  refine Stk.bk ?_
  refine Stk.lo (fun μ t H n => ∃ v20 : Int, R20_Fit_L3 F a0 μ v20 = some r ∧ t 1 = .own b1 0 ∧ t 7 = .sc (.int .i64 v20) ∧ H b1 = some (.cells (c26 a0) 26) ∧ b1 < n) F ⟨0, h, f1, f7, b_b1, l_b1⟩ ?_
  clear h f1 f7 b_b1 l_b1
  rintro J15 hJ15 μ t H n ⟨v20, h, f1, f7, b_b1, l_b1⟩
  cases μ with
  | zero => exact absurd h (by simp [R20_Fit_L3])
  | succ μ =>
  rw [R20_Fit_L3] at h
  refine Stk.sq ?_
  refine Stk.sq ?_
  refine Stk.rg ?_
  refine Stk.run 5 (fun t H n => t 1 = .own b1 0 ∧ t 7 = .sc (.int .i64 v20) ∧ t 105 = .sc (.bool (decide (v20 < (a0.Tables.length : Int)))) ∧ H b1 = some (.cells (c26 a0) 26) ∧ b1 < n) (fun J hJ => ?_) ?_
  ·simp [-splice, f1, f7, b_b1, ld_26_2_24]
   exact hJ _ _ _ ⟨by simp [f1], by simp [f7], by simp [-splice, f1, f7, b_b1, ld_26_2_24], b_b1, l_b1⟩
  clear f1 f7 b_b1 l_b1
  rintro t H n ⟨f1, f7, f105, b_b1, l_b1⟩
  refine Stk.on ?_
  refine Stk.cond (decide (v20 < (a0.Tables.length : Int))) (by exact f105) (fun hb22 => ?_) (fun hb22 => ?_)
  ·have h := cT hb22 h
   refine Stk.sk ?_
   refine Stk.sq ?_
   refine Stk.bk ?_
   refine Stk.sq ?_
   refine Stk.sq ?_
   refine Stk.rg ?_
   obtain ⟨x23, hx23, h⟩ := bnd h
   obtain ⟨i0x23, i1x23, i2x23, _⟩ := idx_ok hx23
   have ex23_0_47 : partOf T.T 47 (encs c47 a0.Tables) (v20.toNat) = some (.ssl (encs c3 x23) x23.length false) := by
     have e0 := part_elem0 (e := c47) (z := 1) (T := T.T) (ty := 47) T.t47 (by decide) (by decide) hx23 0 (by decide)
     (try simp only [Nat.mul_one, Nat.add_zero] at e0)
     exact e0.trans rfl
   refine Stk.run 8 (fun t H n => t 1 = .own b1 0 ∧ t 7 = .sc (.int .i64 v20) ∧ t 115 = .sc (.bool (decide ((x23.length : Int) < 1))) ∧ H b1 = some (.cells (c26 a0) 26) ∧ b1 < n) (fun J hJ => ?_) ?_
   ·simp [-splice, f1, f7, f105, b_b1, ld_26_2_24, i0x23, i1x23, pd47, ex23_0_47]
    exact hJ _ _ _ ⟨by simp [f1], by simp [f7], by simp [-splice, f1, f7, f105, b_b1, ld_26_2_24, i0x23, i1x23, pd47, ex23_0_47], b_b1, l_b1⟩
   clear f1 f7 f105 b_b1 l_b1
   rintro t H n ⟨f1, f7, f115, b_b1, l_b1⟩
   obtain ⟨K16, hK16, h⟩ := jnd h
   refine Stk.jo 8 (fun t H n => ∃ v24 : Bool, K16 v24 = some r ∧ t 1 = .own b1 0 ∧ t 7 = .sc (.int .i64 v20) ∧ t 123 = .sc (.bool v24) ∧ H b1 = some (.cells (c26 a0) 26) ∧ b1 < n) (fun J16 hJ16 => ?_) ?_
   ·rcases Bool.eq_false_or_eq_true (decide ((x23.length : Int) < 1)) with hb16 | hb16
    ·rw [hb16] at f115
     replace h := cT hb16 h
     refine Stk.run 8 (fun t H n => t 1 = .own b1 0 ∧ t 7 = .sc (.int .i64 v20) ∧ t 123 = .sc (.bool true) ∧ H b1 = some (.cells (c26 a0) 26) ∧ b1 < n) (fun J hJ => ?_) ?_
     ·simp [-splice, f1, f7, f115, b_b1]
      exact hJ _ _ _ ⟨by simp [f1], by simp [f7], by simp [-splice, f1, f7, f115, b_b1], b_b1, l_b1⟩
     clear f1 f7 f115 b_b1 l_b1
     rintro t H n ⟨f1, f7, f123, b_b1, l_b1⟩
     refine Stk.on ?_
     exact Stk.ln 0 (by decide) (hJ16 _ _ _ ⟨true, h, f1, f7, f123, b_b1, l_b1⟩)
    ·rw [hb16] at f115
     replace h := cF hb16 h
     obtain ⟨x25, hx25, h⟩ := bnd h
     obtain ⟨i0x25, i1x25, i2x25, _⟩ := idx_ok hx25
     have ex25_0_47 : partOf T.T 47 (encs c47 a0.Tables) (v20.toNat) = some (.ssl (encs c3 x25) x25.length false) := by
       have e0 := part_elem0 (e := c47) (z := 1) (T := T.T) (ty := 47) T.t47 (by decide) (by decide) hx25 0 (by decide)
       (try simp only [Nat.mul_one, Nat.add_zero] at e0)
       exact e0.trans rfl
     refine Stk.run 8 (fun t H n => t 1 = .own b1 0 ∧ t 7 = .sc (.int .i64 v20) ∧ t 123 = .sc (.bool (decide (16 < (x25.length : Int)))) ∧ H b1 = some (.cells (c26 a0) 26) ∧ b1 < n) (fun J hJ => ?_) ?_
     ·simp [-splice, f1, f7, f115, b_b1, ld_26_2_24, i0x25, i1x25, pd47, ex25_0_47]
      exact hJ _ _ _ ⟨by simp [f1], by simp [f7], by simp [-splice, f1, f7, f115, b_b1, ld_26_2_24, i0x25, i1x25, pd47, ex25_0_47], b_b1, l_b1⟩
     clear f1 f7 f115 b_b1 l_b1
     rintro t H n ⟨f1, f7, f123, b_b1, l_b1⟩
     refine Stk.on ?_
     exact Stk.ln 0 (by decide) (hJ16 _ _ _ ⟨(decide (16 < (x25.length : Int))), h, f1, f7, f123, b_b1, l_b1⟩)
   clear h f1 f7 f115 b_b1 l_b1
   rintro t H n ⟨v24, h, f1, f7, f123, b_b1, l_b1⟩
   subst hK16
   refine Stk.on ?_
   refine Stk.cond v24 (by exact f123) (fun hb26 => ?_) (fun hb26 => ?_)
   ·have h := cT hb26 h
    refine Stk.sq ?_
    refine Stk.rg ?_
    refine Stk.run 1 (fun t H n => t 2 = .sc (.bool false)) (fun J hJ => ?_) ?_
    ·simp [-splice, f1, f7, f123, b_b1]
     exact hJ _ _ _ (by simp [-splice, f1, f7, f123, b_b1])
    clear f1 f7 f123 b_b1 l_b1
    rintro t H n f2
    refine Stk.on ?_
    refine Stk.rt ?_
    have hq := Option.some.inj h; subst hq
    exact (hr _ _ _ (.sc (.bool false)) ([]) (by simp [f2]) (.inr (.inr (.free (rfl))))).1
   ·have h := cF hb26 h
    refine Stk.sk ?_
    refine Stk.sq ?_
    refine Stk.rg ?_
    refine Stk.run 1 (fun t H n => t 1 = .own b1 0 ∧ t 7 = .sc (.int .i64 v20) ∧ t 8 = .sc (.int .i64 0) ∧ H b1 = some (.cells (c26 a0) 26) ∧ b1 < n) (fun J hJ => ?_) ?_
    ·simp [-splice, f1, f7, f123, b_b1]
     exact hJ _ _ _ ⟨by simp [f1], by simp [f7], by simp [-splice, f1, f7, f123, b_b1], b_b1, l_b1⟩
    clear f1 f7 f123 b_b1 l_b1
    rintro t H n ⟨f1, f7, f8, b_b1, l_b1⟩
    refine Stk.on ?_
    obtain ⟨K17, hK17, h⟩ := jnd h
    refine Stk.jn (fun t H n => K17 () = some r ∧ t 1 = .own b1 0 ∧ t 7 = .sc (.int .i64 v20) ∧ H b1 = some (.cells (c26 a0) 26) ∧ b1 < n) trivial (fun J17 hJ17 => ?_) ?_
    ·skip
     refine Stk.bk ?_
     refine Stk.lo (fun μ t H n => ∃ v27 : Int, R20_Fit_L4 F a0 v20 K17 μ v27 = some r ∧ t 1 = .own b1 0 ∧ t 7 = .sc (.int .i64 v20) ∧ t 8 = .sc (.int .i64 v27) ∧ H b1 = some (.cells (c26 a0) 26) ∧ b1 < n) F ⟨0, h, f1, f7, f8, b_b1, l_b1⟩ ?_
     clear h f1 f7 f8 b_b1 l_b1
     rintro J18 hJ18 μ t H n ⟨v27, h, f1, f7, f8, b_b1, l_b1⟩
     cases μ with
     | zero => exact absurd h (by simp [R20_Fit_L4])
     | succ μ =>
     rw [R20_Fit_L4] at h
     refine Stk.sq ?_
     refine Stk.sq ?_
     refine Stk.rg ?_
     obtain ⟨x29, hx29, h⟩ := bnd h
     obtain ⟨i0x29, i1x29, i2x29, _⟩ := idx_ok hx29
     have ex29_0_47 : partOf T.T 47 (encs c47 a0.Tables) (v20.toNat) = some (.ssl (encs c3 x29) x29.length false) := by
       have e0 := part_elem0 (e := c47) (z := 1) (T := T.T) (ty := 47) T.t47 (by decide) (by decide) hx29 0 (by decide)
       (try simp only [Nat.mul_one, Nat.add_zero] at e0)
       exact e0.trans rfl
     refine Stk.run 8 (fun t H n => t 1 = .own b1 0 ∧ t 7 = .sc (.int .i64 v20) ∧ t 8 = .sc (.int .i64 v27) ∧ t 131 = .sc (.bool (decide (v27 < (x29.length : Int)))) ∧ H b1 = some (.cells (c26 a0) 26) ∧ b1 < n) (fun J hJ => ?_) ?_
     ·simp [-splice, f1, f7, f8, b_b1, ld_26_2_24, i0x29, i1x29, pd47, ex29_0_47]
      exact hJ _ _ _ ⟨by simp [f1], by simp [f7], by simp [f8], by simp [-splice, f1, f7, f8, b_b1, ld_26_2_24, i0x29, i1x29, pd47, ex29_0_47], b_b1, l_b1⟩
     clear f1 f7 f8 b_b1 l_b1
     rintro t H n ⟨f1, f7, f8, f131, b_b1, l_b1⟩
     refine Stk.on ?_
     refine Stk.cond (decide (v27 < (x29.length : Int))) (by exact f131) (fun hb30 => ?_) (fun hb30 => ?_)
     ·have h := cT hb30 h
      refine Stk.sk ?_
      refine Stk.sq ?_
      refine Stk.bk ?_
      refine Stk.sq ?_
      refine Stk.rg ?_
      obtain ⟨x31, hx31, h⟩ := bnd h
      obtain ⟨i0x31, i1x31, i2x31, _⟩ := idx_ok hx31
      have ex31_0_47 : partOf T.T 47 (encs c47 a0.Tables) (v20.toNat) = some (.ssl (encs c3 x31) x31.length false) := by
        have e0 := part_elem0 (e := c47) (z := 1) (T := T.T) (ty := 47) T.t47 (by decide) (by decide) hx31 0 (by decide)
        (try simp only [Nat.mul_one, Nat.add_zero] at e0)
        exact e0.trans rfl
      obtain ⟨x32, hx32, h⟩ := bnd h
      obtain ⟨i0x32, i1x32, i2x32, _⟩ := idx_ok hx32
      have ex32_0_3 : partOf T.T 3 (encs c3 x31) (v27.toNat) = some (.sc (.int .i64 x32)) := by
        have e0 := part_elem0 (e := c3) (z := 1) (T := T.T) (ty := 3) T.t3 (by decide) (by decide) hx32 0 (by decide)
        (try simp only [Nat.mul_one, Nat.add_zero] at e0)
        exact e0.trans rfl
      refine Stk.run 10 (fun t H n => t 1 = .own b1 0 ∧ t 7 = .sc (.int .i64 v20) ∧ t 8 = .sc (.int .i64 v27) ∧ t 143 = .sc (.bool (decide (x32 < (-1)))) ∧ H b1 = some (.cells (c26 a0) 26) ∧ b1 < n) (fun J hJ => ?_) ?_
      ·simp [-splice, f1, f7, f8, f131, b_b1, ld_26_2_24, i0x31, i1x31, pd47, ex31_0_47, i0x32, i1x32, pd3, ex32_0_3]
       exact hJ _ _ _ ⟨by simp [f1], by simp [f7], by simp [f8], by simp [-splice, f1, f7, f8, f131, b_b1, ld_26_2_24, i0x31, i1x31, pd47, ex31_0_47, i0x32, i1x32, pd3, ex32_0_3], b_b1, l_b1⟩
      clear f1 f7 f8 f131 b_b1 l_b1
      rintro t H n ⟨f1, f7, f8, f143, b_b1, l_b1⟩
      obtain ⟨K19, hK19, h⟩ := jnd h
      refine Stk.jo 10 (fun t H n => ∃ v33 : Bool, K19 v33 = some r ∧ t 1 = .own b1 0 ∧ t 7 = .sc (.int .i64 v20) ∧ t 8 = .sc (.int .i64 v27) ∧ t 153 = .sc (.bool v33) ∧ H b1 = some (.cells (c26 a0) 26) ∧ b1 < n) (fun J19 hJ19 => ?_) ?_
      ·rcases Bool.eq_false_or_eq_true (decide (x32 < (-1))) with hb19 | hb19
       ·rw [hb19] at f143
        replace h := cT hb19 h
        refine Stk.run 10 (fun t H n => t 1 = .own b1 0 ∧ t 7 = .sc (.int .i64 v20) ∧ t 8 = .sc (.int .i64 v27) ∧ t 153 = .sc (.bool true) ∧ H b1 = some (.cells (c26 a0) 26) ∧ b1 < n) (fun J hJ => ?_) ?_
        ·simp [-splice, f1, f7, f8, f143, b_b1]
         exact hJ _ _ _ ⟨by simp [f1], by simp [f7], by simp [f8], by simp [-splice, f1, f7, f8, f143, b_b1], b_b1, l_b1⟩
        clear f1 f7 f8 f143 b_b1 l_b1
        rintro t H n ⟨f1, f7, f8, f153, b_b1, l_b1⟩
        refine Stk.on ?_
        exact Stk.ln 0 (by decide) (hJ19 _ _ _ ⟨true, h, f1, f7, f8, f153, b_b1, l_b1⟩)
       ·rw [hb19] at f143
        replace h := cF hb19 h
        obtain ⟨x34, hx34, h⟩ := bnd h
        obtain ⟨i0x34, i1x34, i2x34, _⟩ := idx_ok hx34
        have ex34_0_47 : partOf T.T 47 (encs c47 a0.Tables) (v20.toNat) = some (.ssl (encs c3 x34) x34.length false) := by
          have e0 := part_elem0 (e := c47) (z := 1) (T := T.T) (ty := 47) T.t47 (by decide) (by decide) hx34 0 (by decide)
          (try simp only [Nat.mul_one, Nat.add_zero] at e0)
          exact e0.trans rfl
        obtain ⟨x35, hx35, h⟩ := bnd h
        obtain ⟨i0x35, i1x35, i2x35, _⟩ := idx_ok hx35
        have ex35_0_3 : partOf T.T 3 (encs c3 x34) (v27.toNat) = some (.sc (.int .i64 x35)) := by
          have e0 := part_elem0 (e := c3) (z := 1) (T := T.T) (ty := 3) T.t3 (by decide) (by decide) hx35 0 (by decide)
          (try simp only [Nat.mul_one, Nat.add_zero] at e0)
          exact e0.trans rfl
        refine Stk.run 10 (fun t H n => t 1 = .own b1 0 ∧ t 7 = .sc (.int .i64 v20) ∧ t 8 = .sc (.int .i64 v27) ∧ t 153 = .sc (.bool (decide (1048576 ≤ x35))) ∧ H b1 = some (.cells (c26 a0) 26) ∧ b1 < n) (fun J hJ => ?_) ?_
        ·simp [-splice, f1, f7, f8, f143, b_b1, ld_26_2_24, i0x34, i1x34, pd47, ex34_0_47, i0x35, i1x35, pd3, ex35_0_3]
         exact hJ _ _ _ ⟨by simp [f1], by simp [f7], by simp [f8], by simp [-splice, f1, f7, f8, f143, b_b1, ld_26_2_24, i0x34, i1x34, pd47, ex34_0_47, i0x35, i1x35, pd3, ex35_0_3], b_b1, l_b1⟩
        clear f1 f7 f8 f143 b_b1 l_b1
        rintro t H n ⟨f1, f7, f8, f153, b_b1, l_b1⟩
        refine Stk.on ?_
        exact Stk.ln 0 (by decide) (hJ19 _ _ _ ⟨(decide (1048576 ≤ x35)), h, f1, f7, f8, f153, b_b1, l_b1⟩)
      clear h f1 f7 f8 f143 b_b1 l_b1
      rintro t H n ⟨v33, h, f1, f7, f8, f153, b_b1, l_b1⟩
      subst hK19
      refine Stk.on ?_
      refine Stk.cond v33 (by exact f153) (fun hb36 => ?_) (fun hb36 => ?_)
      ·have h := cT hb36 h
       refine Stk.sq ?_
       refine Stk.rg ?_
       refine Stk.run 1 (fun t H n => t 2 = .sc (.bool false)) (fun J hJ => ?_) ?_
       ·simp [-splice, f1, f7, f8, f153, b_b1]
        exact hJ _ _ _ (by simp [-splice, f1, f7, f8, f153, b_b1])
       clear f1 f7 f8 f153 b_b1 l_b1
       rintro t H n f2
       refine Stk.on ?_
       refine Stk.rt ?_
       have hq := Option.some.inj h; subst hq
       exact (hr _ _ _ (.sc (.bool false)) ([]) (by simp [f2]) (.inr (.inr (.free (rfl))))).1
      ·have h := cF hb36 h
       refine Stk.sk ?_
       refine Stk.bn ?_
       refine Stk.rg ?_
       refine Stk.run 3 (fun t H n => t 1 = .own b1 0 ∧ t 7 = .sc (.int .i64 v20) ∧ t 8 = .sc (.int .i64 (IntKind.i64.wrap (v27 + 1))) ∧ H b1 = some (.cells (c26 a0) 26) ∧ b1 < n) (fun J hJ => ?_) ?_
       ·simp [-splice, f1, f7, f8, f153, b_b1]
        exact hJ _ _ _ ⟨by simp [f1], by simp [f7], by simp [-splice, f1, f7, f8, f153, b_b1], b_b1, l_b1⟩
       clear f1 f7 f8 f153 b_b1 l_b1
       rintro t H n ⟨f1, f7, f8, b_b1, l_b1⟩
       refine Stk.on ?_
       exact Stk.ln μ (Nat.lt_succ_self _) (hJ18 _ _ _ _ ⟨(IntKind.i64.wrap (v27 + 1)), h, f1, f7, f8, b_b1, l_b1⟩)
     ·have h := cF hb30 h
      refine Stk.ex rfl ?_
      exact Stk.ln 0 (by decide) (hJ17 _ _ _ ⟨h, f1, f7, b_b1, l_b1⟩)
    clear h f1 f7 f8 b_b1 l_b1
    rintro t H n ⟨h, f1, f7, b_b1, l_b1⟩
    subst hK17
    refine Stk.bn ?_
    refine Stk.rg ?_
    refine Stk.run 3 (fun t H n => t 1 = .own b1 0 ∧ t 7 = .sc (.int .i64 (IntKind.i64.wrap (v20 + 1))) ∧ H b1 = some (.cells (c26 a0) 26) ∧ b1 < n) (fun J hJ => ?_) ?_
    ·simp [-splice, f1, f7, b_b1]
     exact hJ _ _ _ ⟨by simp [f1], by simp [-splice, f1, f7, b_b1], b_b1, l_b1⟩
    clear f1 f7 b_b1 l_b1
    rintro t H n ⟨f1, f7, b_b1, l_b1⟩
    refine Stk.on ?_
    exact Stk.ln μ (Nat.lt_succ_self _) (hJ15 _ _ _ _ ⟨(IntKind.i64.wrap (v20 + 1)), h, f1, f7, b_b1, l_b1⟩)
  ·have h := cF hb22 h
   refine Stk.ex rfl ?_
   refine Stk.sq ?_
   refine Stk.rg ?_
   refine Stk.run 1 (fun t H n => t 2 = .sc (.bool true)) (fun J hJ => ?_) ?_
   ·simp [-splice, f1, f7, f105, b_b1]
    exact hJ _ _ _ (by simp [-splice, f1, f7, f105, b_b1])
   clear f1 f7 f105 b_b1 l_b1
   rintro t H n f2
   refine Stk.on ?_
   refine Stk.rt ?_
   have hq := Option.some.inj h; subst hq
   exact (hr _ _ _ (.sc (.bool true)) ([]) (by simp [f2]) (.inr (.inr (.free (rfl))))).1
theorem ok_R09_Bool (F : Nat)  (r : api_Type) (h : R09_Bool F  = some r) : RunF Try.prog T.T 37 [] (.agg (c62 r)) := by
 rw [R09_Bool] at h
 refine RunF.z Try.func37 rfl rfl rfl rfl rfl (fun C hr => ?_)
 refine Stk.gen (fun t H n => True) trivial ?_
 rintro t H n -
 refine Stk.sq ?_
 refine Stk.rg ?_
 refine Stk.oz T.t62 (cs := c62 (api_Type.mk 0 ⟨#[]⟩ [])) (by rw [u62]; rfl) rfl (by simp []) rfl (fun t' ht' => ?_)
 refine Stk.gen (fun t H n => ∃ b1, t 0 = .own b1 0 ∧ H b1 = some (.cells (c62 (api_Type.mk 0 ⟨#[]⟩ [])) 62) ∧ b1 < n) ⟨n, by simp [ht'], upd_same _ _ _, Nat.lt_succ_self _⟩ ?_
 clear  ht' t'
 rintro t H n ⟨b1, f0, b_b1, l_b1⟩
 refine Stk.on ?_
 refine Stk.sq ?_
 refine Stk.rg ?_
 refine Stk.ov (vop_build T.t62 rfl rfl (cs := c62 (api_Type.mk 0 ⟨#[]⟩ [])) (cs' := c62 (api_Type.mk 2 (⟨#[98, 111, 111, 108]⟩ : ByteArray) [])) rfl (.cons rfl rfl rfl rfl rfl (rfl) (by rw [len62]; decide) (st_62_0_3 _ _) (.cons rfl rfl rfl rfl rfl (rfl) (by rw [len62]; decide) (st_62_1_9 _ _) (.nil)))) (by simp [f0]) rfl (fun t' ht' => ?_)
 refine Stk.gen (fun t H n => t 0 = .own b1 0 ∧ t 1 = .agg (c62 (api_Type.mk 2 (⟨#[98, 111, 111, 108]⟩ : ByteArray) [])) ∧ H b1 = some (.cells (c62 (api_Type.mk 0 ⟨#[]⟩ [])) 62) ∧ b1 < n) ⟨by simp [ht', f0], by simp [ht'], b_b1, l_b1⟩ ?_
 clear f0 b_b1 l_b1 ht' t'
 rintro t H n ⟨f0, f1, b_b1, l_b1⟩
 refine Stk.om (mop_store (z := 3) rfl f0 b_b1 f1 (len62 _) (by rw [len62]; decide) (ok62 _) (st_62_0_62 _ _)) (by simp [f0, f1]) rfl (fun t' ht' => ?_)
 refine Stk.gen (fun t H n => t 0 = .own b1 0 ∧ H b1 = some (.cells (c62 (api_Type.mk 2 (⟨#[98, 111, 111, 108]⟩ : ByteArray) [])) 62) ∧ b1 < n) ⟨by simp [ht', f0], upd_same _ _ _, l_b1⟩ ?_
 clear f0 f1 b_b1 l_b1 ht' t'
 rintro t H n ⟨f0, b_b1, l_b1⟩
 refine Stk.on ?_
 refine Stk.rt ?_
 have hq := Option.some.inj h; subst hq
 exact (hr _ _ _ (.agg (c62 (api_Type.mk 2 (⟨#[98, 111, 111, 108]⟩ : ByteArray) []))) ([]) (by simp [f0, b_b1, ld_62_0_62]) (.inr (.inr (.free (fr62 _))))).1
end Go.Proofs.Ytcdafogfmijcpaa.M
