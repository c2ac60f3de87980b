/-
 The functions come to them.
-/
import Derived.Test.YtcdafogfmijcpaaFsM
import Derived.Test.YtcdafogfmijcpaaFsW2
namespace Go.Proofs.Ytcdafogfmijcpaa.M
open Go.Proofs.YtcdafogfmijcpaaW.Ah Go.Proofs.Ytcdafogfmijcpaa
set_option linter.unusedVariables false
set_option linter.unusedSimpArgs false
set_option maxRecDepth 8000
attribute [local simp] T.t2 T.t3 T.t4 T.t9 T.t22 T.t23 T.t24 T.t26 T.t39 T.t41 T.t44 T.t47 T.t51 T.t60 T.t62 List.range List.range.loop
attribute [-simp] appendAV fillAV
theorem ok_R09_Ops (F : Nat) (a0 : Int) (r : ((List api_Type) × api_Type)) (h : R09_Ops F a0 = some r) : RunF Try.prog T.T 22 [.sc (.int .i64 a0)] (.tup [.ssl (encs c62 r.1) r.1.length true, .agg (c62 r.2)]) := by
 rw [R09_Ops] at h
 refine RunF.z Try.func22 rfl rfl rfl rfl rfl (fun C hr => ?_)
 refine Stk.gen (fun t H n => t 0 = .sc (.int .i64 a0)) (by simp) ?_
 rintro t H n f0
 refine Stk.sq ?_
 refine Stk.rg ?_
 refine Stk.run 1 (fun t H n => t 0 = .sc (.int .i64 a0)) (fun J hJ => ?_) ?_
 ·simp [-splice, f0]
  exact hJ _ _ _ (by simp [f0])
 clear f0
 rintro t H n f0
 refine Stk.oz T.t62 (cs := c62 (api_Type.mk 0 ⟨#[]⟩ [])) (by rw [u62]; rfl) rfl (by simp [f0]) rfl (fun t' ht' => ?_)
 refine Stk.gen (fun t H n => ∃ b1, t 0 = .sc (.int .i64 a0) ∧ t 3 = .own b1 0 ∧ H b1 = some (.cells (c62 (api_Type.mk 0 ⟨#[]⟩ [])) 62) ∧ b1 < n) ⟨n, by simp [ht', f0], by simp [ht'], upd_same _ _ _, Nat.lt_succ_self _⟩ ?_
 clear f0 ht' t'
 rintro t H n ⟨b1, f0, f3, b_b1, l_b1⟩
 refine Stk.on ?_
 refine Stk.sq ?_
 refine Stk.rg ?_
 refine Stk.ov (vop_build T.t62 rfl rfl (cs := c62 (api_Type.mk 0 ⟨#[]⟩ [])) (cs' := c62 (api_Type.mk 0 ⟨#[]⟩ [])) rfl (.cons rfl rfl rfl rfl rfl (rfl) (by rw [len62]; decide) (st_62_0_3 _ _) (.nil))) (by simp [f0, f3]) rfl (fun t' ht' => ?_)
 refine Stk.gen (fun t H n => t 0 = .sc (.int .i64 a0) ∧ t 3 = .own b1 0 ∧ t 6 = .agg (c62 (api_Type.mk 0 ⟨#[]⟩ [])) ∧ H b1 = some (.cells (c62 (api_Type.mk 0 ⟨#[]⟩ [])) 62) ∧ b1 < n) ⟨by simp [ht', f0], by simp [ht', f3], by simp [ht'], b_b1, l_b1⟩ ?_
 clear f0 f3 b_b1 l_b1 ht' t'
 rintro t H n ⟨f0, f3, f6, b_b1, l_b1⟩
 refine Stk.oz T.t62 (cs := c62 (api_Type.mk 0 ⟨#[]⟩ [])) (by rw [u62]; rfl) rfl (by simp [f0, f3, f6]) rfl (fun t' ht' => ?_)
 refine Stk.gen (fun t H n => ∃ b2, t 0 = .sc (.int .i64 a0) ∧ t 3 = .own b1 0 ∧ t 4 = .own b2 0 ∧ t 6 = .agg (c62 (api_Type.mk 0 ⟨#[]⟩ [])) ∧ H b1 = some (.cells (c62 (api_Type.mk 0 ⟨#[]⟩ [])) 62) ∧ b1 < n ∧ H b2 = some (.cells (c62 (api_Type.mk 0 ⟨#[]⟩ [])) 62) ∧ b2 < n ∧ b1 ≠ b2) ⟨n, by simp [ht', f0], by simp [ht', f3], by simp [ht'], by simp [ht', f6], (upd_ne _ _ (Nat.ne_of_lt l_b1)).trans b_b1, Nat.lt_succ_of_lt l_b1, upd_same _ _ _, Nat.lt_succ_self _, Nat.ne_of_lt l_b1⟩ ?_
 clear f0 f3 f6 b_b1 l_b1 ht' t'
 rintro t H n ⟨b2, f0, f3, f4, f6, b_b1, l_b1, b_b2, l_b2, d_b1_b2⟩
 refine Stk.om (mop_store (z := 3) rfl f4 b_b2 f6 (len62 _) (by rw [len62]; decide) (ok62 _) (st_62_0_62 _ _)) (by simp [f0, f3, f4, f6]) rfl (fun t' ht' => ?_)
 refine Stk.gen (fun t H n => t 0 = .sc (.int .i64 a0) ∧ t 3 = .own b1 0 ∧ t 4 = .own b2 0 ∧ H b1 = some (.cells (c62 (api_Type.mk 0 ⟨#[]⟩ [])) 62) ∧ b1 < n ∧ H b2 = some (.cells (c62 (api_Type.mk 0 ⟨#[]⟩ [])) 62) ∧ b2 < n ∧ b1 ≠ b2) ⟨by simp [ht', f0], by simp [ht', f3], by simp [ht', f4], (upd_ne _ _ d_b1_b2).trans b_b1, l_b1, upd_same _ _ _, l_b2, d_b1_b2⟩ ?_
 clear f0 f3 f4 f6 b_b1 l_b1 b_b2 l_b2 d_b1_b2 ht' t'
 rintro t H n ⟨f0, f3, f4, b_b1, l_b1, b_b2, l_b2, d_b1_b2⟩
 refine Stk.on ?_
 refine Stk.sq ?_
 refine Stk.rg ?_
 refine Stk.ov (vop_build T.t62 rfl rfl (cs := c62 (api_Type.mk 0 ⟨#[]⟩ [])) (cs' := c62 (api_Type.mk 1 ⟨#[]⟩ [])) rfl (.cons rfl rfl rfl rfl rfl (rfl) (by rw [len62]; decide) (st_62_0_3 _ _) (.nil))) (by simp [f0, f3, f4]) rfl (fun t' ht' => ?_)
 refine Stk.gen (fun t H n => t 0 = .sc (.int .i64 a0) ∧ t 3 = .own b1 0 ∧ t 4 = .own b2 0 ∧ t 7 = .agg (c62 (api_Type.mk 1 ⟨#[]⟩ [])) ∧ H b1 = some (.cells (c62 (api_Type.mk 0 ⟨#[]⟩ [])) 62) ∧ b1 < n ∧ H b2 = some (.cells (c62 (api_Type.mk 0 ⟨#[]⟩ [])) 62) ∧ b2 < n ∧ b1 ≠ b2) ⟨by simp [ht', f0], by simp [ht', f3], by simp [ht', f4], by simp [ht'], b_b1, l_b1, b_b2, l_b2, d_b1_b2⟩ ?_
 clear f0 f3 f4 b_b1 l_b1 b_b2 l_b2 d_b1_b2 ht' t'
 rintro t H n ⟨f0, f3, f4, f7, b_b1, l_b1, b_b2, l_b2, d_b1_b2⟩
 refine Stk.oz T.t62 (cs := c62 (api_Type.mk 0 ⟨#[]⟩ [])) (by rw [u62]; rfl) rfl (by simp [f0, f3, f4, f7]) rfl (fun t' ht' => ?_)
 refine Stk.gen (fun t H n => ∃ b3, t 0 = .sc (.int .i64 a0) ∧ t 3 = .own b1 0 ∧ t 4 = .own b2 0 ∧ t 5 = .own b3 0 ∧ t 7 = .agg (c62 (api_Type.mk 1 ⟨#[]⟩ [])) ∧ H b1 = some (.cells (c62 (api_Type.mk 0 ⟨#[]⟩ [])) 62) ∧ b1 < n ∧ H b2 = some (.cells (c62 (api_Type.mk 0 ⟨#[]⟩ [])) 62) ∧ b2 < n ∧ H b3 = some (.cells (c62 (api_Type.mk 0 ⟨#[]⟩ [])) 62) ∧ b3 < n ∧ b1 ≠ b2 ∧ b1 ≠ b3 ∧ b2 ≠ b3) ⟨n, by simp [ht', f0], by simp [ht', f3], by simp [ht', f4], by simp [ht'], by simp [ht', f7], (upd_ne _ _ (Nat.ne_of_lt l_b1)).trans b_b1, Nat.lt_succ_of_lt l_b1, (upd_ne _ _ (Nat.ne_of_lt l_b2)).trans b_b2, Nat.lt_succ_of_lt l_b2, upd_same _ _ _, Nat.lt_succ_self _, d_b1_b2, Nat.ne_of_lt l_b1, Nat.ne_of_lt l_b2⟩ ?_
 clear f0 f3 f4 f7 b_b1 l_b1 b_b2 l_b2 d_b1_b2 ht' t'
 rintro t H n ⟨b3, f0, f3, f4, f5, f7, b_b1, l_b1, b_b2, l_b2, b_b3, l_b3, d_b1_b2, d_b1_b3, d_b2_b3⟩
 refine Stk.om (mop_store (z := 3) rfl f5 b_b3 f7 (len62 _) (by rw [len62]; decide) (ok62 _) (st_62_0_62 _ _)) (by simp [f0, f3, f4, f5, f7]) rfl (fun t' ht' => ?_)
 refine Stk.gen (fun t H n => t 0 = .sc (.int .i64 a0) ∧ t 3 = .own b1 0 ∧ t 4 = .own b2 0 ∧ t 5 = .own b3 0 ∧ H b1 = some (.cells (c62 (api_Type.mk 0 ⟨#[]⟩ [])) 62) ∧ b1 < n ∧ H b2 = some (.cells (c62 (api_Type.mk 0 ⟨#[]⟩ [])) 62) ∧ b2 < n ∧ H b3 = some (.cells (c62 (api_Type.mk 1 ⟨#[]⟩ [])) 62) ∧ b3 < n ∧ b1 ≠ b2 ∧ b1 ≠ b3 ∧ b2 ≠ b3) ⟨by simp [ht', f0], by simp [ht', f3], by simp [ht', f4], by simp [ht', f5], (upd_ne _ _ d_b1_b3).trans b_b1, l_b1, (upd_ne _ _ d_b2_b3).trans b_b2, l_b2, upd_same _ _ _, l_b3, d_b1_b2, d_b1_b3, d_b2_b3⟩ ?_
 clear f0 f3 f4 f5 f7 b_b1 l_b1 b_b2 l_b2 b_b3 l_b3 d_b1_b2 d_b1_b3 d_b2_b3 ht' t'
 rintro t H n ⟨f0, f3, f4, f5, b_b1, l_b1, b_b2, l_b2, b_b3, l_b3, d_b1_b2, d_b1_b3, d_b2_b3⟩
 refine Stk.on ?_
 refine Stk.sq ?_
 refine Stk.sq ?_
 refine Stk.rg ?_
 refine Stk.run 1 (fun t H n => t 3 = .own b1 0 ∧ t 4 = .own b2 0 ∧ t 5 = .own b3 0 ∧ t 8 = .sc (.int .i64 a0) ∧ H b1 = some (.cells (c62 (api_Type.mk 0 ⟨#[]⟩ [])) 62) ∧ b1 < n ∧ H b2 = some (.cells (c62 (api_Type.mk 0 ⟨#[]⟩ [])) 62) ∧ b2 < n ∧ H b3 = some (.cells (c62 (api_Type.mk 1 ⟨#[]⟩ [])) 62) ∧ b3 < n ∧ b1 ≠ b2 ∧ b1 ≠ b3 ∧ b2 ≠ b3) (fun J hJ => ?_) ?_
 ·simp [-splice, f0, f3, f4, f5, b_b1, b_b2, b_b3]
  exact hJ _ _ _ ⟨by simp [f3], by simp [f4], by simp [f5], by simp [-splice, f0, f3, f4, f5, b_b1, b_b2, b_b3], b_b1, l_b1, b_b2, l_b2, b_b3, l_b3, d_b1_b2, d_b1_b3, d_b2_b3⟩
 clear f0 f3 f4 f5 b_b1 l_b1 b_b2 l_b2 b_b3 l_b3 d_b1_b2 d_b1_b3 d_b2_b3
 rintro t H n ⟨f3, f4, f5, f8, b_b1, l_b1, b_b2, l_b2, b_b3, l_b3, d_b1_b2, d_b1_b3, d_b2_b3⟩
 refine Stk.on ?_
 refine Stk.bk ?_
 refine Stk.sq ?_
 refine Stk.sq ?_
 refine Stk.rg ?_
 refine Stk.run 2 (fun t H n => t 3 = .own b1 0 ∧ t 4 = .own b2 0 ∧ t 5 = .own b3 0 ∧ t 8 = .sc (.int .i64 a0) ∧ t 9 = .sc (.bool (a0 == 5)) ∧ H b1 = some (.cells (c62 (api_Type.mk 0 ⟨#[]⟩ [])) 62) ∧ b1 < n ∧ H b2 = some (.cells (c62 (api_Type.mk 0 ⟨#[]⟩ [])) 62) ∧ b2 < n ∧ H b3 = some (.cells (c62 (api_Type.mk 1 ⟨#[]⟩ [])) 62) ∧ b3 < n ∧ b1 ≠ b2 ∧ b1 ≠ b3 ∧ b2 ≠ b3) (fun J hJ => ?_) ?_
 ·simp [-splice, f3, f4, f5, f8, b_b1, b_b2, b_b3]
  exact hJ _ _ _ ⟨by simp [f3], by simp [f4], by simp [f5], by simp [f8], by simp [-splice, f3, f4, f5, f8, b_b1, b_b2, b_b3], b_b1, l_b1, b_b2, l_b2, b_b3, l_b3, d_b1_b2, d_b1_b3, d_b2_b3⟩
 clear f3 f4 f5 f8 b_b1 l_b1 b_b2 l_b2 b_b3 l_b3 d_b1_b2 d_b1_b3 d_b2_b3
 rintro t H n ⟨f3, f4, f5, f8, f9, b_b1, l_b1, b_b2, l_b2, b_b3, l_b3, d_b1_b2, d_b1_b3, d_b2_b3⟩
 refine Stk.on ?_
 obtain ⟨K1, hK1, h⟩ := jnd h
 refine Stk.jn (fun t H n => ∃ v4 : Bool, K1 v4 = some r ∧ t 3 = .own b1 0 ∧ t 4 = .own b2 0 ∧ t 5 = .own b3 0 ∧ t 8 = .sc (.int .i64 a0) ∧ t 9 = .sc (.bool v4) ∧ H b1 = some (.cells (c62 (api_Type.mk 0 ⟨#[]⟩ [])) 62) ∧ b1 < n ∧ H b2 = some (.cells (c62 (api_Type.mk 0 ⟨#[]⟩ [])) 62) ∧ b2 < n ∧ H b3 = some (.cells (c62 (api_Type.mk 1 ⟨#[]⟩ [])) 62) ∧ b3 < n ∧ b1 ≠ b2 ∧ b1 ≠ b3 ∧ b2 ≠ b3) trivial (fun J1 hJ1 => ?_) ?_
 ·skip
  refine Stk.cond (a0 == 5) (by exact f9) (fun hb5 => ?_) (fun hb5 => ?_)
  ·have h := cT hb5 h
   refine Stk.sk ?_
   exact Stk.ln 0 (by decide) (hJ1 _ _ _ ⟨(a0 == 5), h, f3, f4, f5, f8, f9, b_b1, l_b1, b_b2, l_b2, b_b3, l_b3, d_b1_b2, d_b1_b3, d_b2_b3⟩)
  ·have h := cF hb5 h
   refine Stk.sq ?_
   refine Stk.rg ?_
   refine Stk.run 2 (fun t H n => t 3 = .own b1 0 ∧ t 4 = .own b2 0 ∧ t 5 = .own b3 0 ∧ t 8 = .sc (.int .i64 a0) ∧ t 9 = .sc (.bool (a0 == 6)) ∧ H b1 = some (.cells (c62 (api_Type.mk 0 ⟨#[]⟩ [])) 62) ∧ b1 < n ∧ H b2 = some (.cells (c62 (api_Type.mk 0 ⟨#[]⟩ [])) 62) ∧ b2 < n ∧ H b3 = some (.cells (c62 (api_Type.mk 1 ⟨#[]⟩ [])) 62) ∧ b3 < n ∧ b1 ≠ b2 ∧ b1 ≠ b3 ∧ b2 ≠ b3) (fun J hJ => ?_) ?_
   ·simp [-splice, f3, f4, f5, f8, f9, b_b1, b_b2, b_b3]
    exact hJ _ _ _ ⟨by simp [f3], by simp [f4], by simp [f5], by simp [f8], by simp [-splice, f3, f4, f5, f8, f9, b_b1, b_b2, b_b3], b_b1, l_b1, b_b2, l_b2, b_b3, l_b3, d_b1_b2, d_b1_b3, d_b2_b3⟩
   clear f3 f4 f5 f8 f9 b_b1 l_b1 b_b2 l_b2 b_b3 l_b3 d_b1_b2 d_b1_b3 d_b2_b3
   rintro t H n ⟨f3, f4, f5, f8, f9, b_b1, l_b1, b_b2, l_b2, b_b3, l_b3, d_b1_b2, d_b1_b3, d_b2_b3⟩
   refine Stk.on ?_
   refine Stk.cond (a0 == 6) (by exact f9) (fun hb6 => ?_) (fun hb6 => ?_)
   ·have h := cT hb6 h
    refine Stk.sk ?_
    exact Stk.ln 0 (by decide) (hJ1 _ _ _ ⟨(a0 == 6), h, f3, f4, f5, f8, f9, b_b1, l_b1, b_b2, l_b2, b_b3, l_b3, d_b1_b2, d_b1_b3, d_b2_b3⟩)
   ·have h := cF hb6 h
    refine Stk.rg ?_
    refine Stk.run 2 (fun t H n => t 3 = .own b1 0 ∧ t 4 = .own b2 0 ∧ t 5 = .own b3 0 ∧ t 8 = .sc (.int .i64 a0) ∧ t 9 = .sc (.bool (a0 == 7)) ∧ H b1 = some (.cells (c62 (api_Type.mk 0 ⟨#[]⟩ [])) 62) ∧ b1 < n ∧ H b2 = some (.cells (c62 (api_Type.mk 0 ⟨#[]⟩ [])) 62) ∧ b2 < n ∧ H b3 = some (.cells (c62 (api_Type.mk 1 ⟨#[]⟩ [])) 62) ∧ b3 < n ∧ b1 ≠ b2 ∧ b1 ≠ b3 ∧ b2 ≠ b3) (fun J hJ => ?_) ?_
    ·simp [-splice, f3, f4, f5, f8, f9, b_b1, b_b2, b_b3]
     exact hJ _ _ _ ⟨by simp [f3], by simp [f4], by simp [f5], by simp [f8], by simp [-splice, f3, f4, f5, f8, f9, b_b1, b_b2, b_b3], b_b1, l_b1, b_b2, l_b2, b_b3, l_b3, d_b1_b2, d_b1_b3, d_b2_b3⟩
    clear f3 f4 f5 f8 f9 b_b1 l_b1 b_b2 l_b2 b_b3 l_b3 d_b1_b2 d_b1_b3 d_b2_b3
    rintro t H n ⟨f3, f4, f5, f8, f9, b_b1, l_b1, b_b2, l_b2, b_b3, l_b3, d_b1_b2, d_b1_b3, d_b2_b3⟩
    refine Stk.on ?_
    exact Stk.ln 0 (by decide) (hJ1 _ _ _ ⟨(a0 == 7), h, f3, f4, f5, f8, f9, b_b1, l_b1, b_b2, l_b2, b_b3, l_b3, d_b1_b2, d_b1_b3, d_b2_b3⟩)
 clear h f3 f4 f5 f8 f9 b_b1 l_b1 b_b2 l_b2 b_b3 l_b3 d_b1_b2 d_b1_b3 d_b2_b3
 rintro t H n ⟨v4, h, f3, f4, f5, f8, f9, b_b1, l_b1, b_b2, l_b2, b_b3, l_b3, d_b1_b2, d_b1_b3, d_b2_b3⟩
 subst hK1
 refine Stk.cond v4 (by exact f9) (fun hb7 => ?_) (fun hb7 => ?_)
 ·have h := cT hb7 h
  refine Stk.sq ?_
  obtain ⟨n0, hn0⟩ : ∃ m, m = n := ⟨n, rfl⟩
  have ln0 : n0 ≤ n := Nat.le_of_eq hn0
  refine Stk.rgD [.rd [b2], .rd [b2], .mem [] n0, .rd [], .rd [], .mem [b1] n0] none (by kernel_rfl) (by rfl) rfl (by simp [below, hn0, l_b1, hn0, l_b2, hn0, l_b3]) rfl ?_
  refine Stk.runD 2 (fun t H n => t 3 = .own b1 0 ∧ t 13 = .agg (c62 (api_Type.mk 0 ⟨#[]⟩ [])) ∧ t 14 = .agg (c62 (api_Type.mk 0 ⟨#[]⟩ [])) ∧ H b1 = some (.cells (c62 (api_Type.mk 0 ⟨#[]⟩ [])) 62) ∧ b1 < n ∧ n0 ≤ n) (fun J hJ => ?_) ?_
  ·simp [-splice, f3, f4, f5, f8, f9, b_b1, b_b2, b_b3, ld_62_0_62]
   exact hJ _ _ _ ⟨by simp [f3], by simp [-splice, f3, f4, f5, f8, f9, b_b1, b_b2, b_b3, ld_62_0_62], by simp [-splice, f3, f4, f5, f8, f9, b_b1, b_b2, b_b3, ld_62_0_62], b_b1, l_b1, ln0⟩
  clear f3 f4 f5 f8 f9 b_b1 l_b1 b_b2 l_b2 b_b3 l_b3 d_b1_b2 d_b1_b3 d_b2_b3 ln0
  rintro t H n ⟨f3, f13, f14, b_b1, l_b1, ln0⟩
  refine Stk.omD (S := []) (b := n0) rfl (fun j hj _ => upd_ne _ _ (by omega)) rfl (mop_buildN (c := c62) (z := 3) T.t60 rfl T.t62 rfl (by decide) rfl (by decide) [(api_Type.mk 0 ⟨#[]⟩ []), (api_Type.mk 0 ⟨#[]⟩ [])] rfl (.cons f13 rfl rfl rfl (len62 _) (by simp [length_encs]) (splice_next (c := c62) [] _ (api_Type.mk 0 ⟨#[]⟩ []) rfl (by simp)) (.cons f14 rfl rfl rfl (len62 _) (by simp [length_encs]) (splice_next (c := c62) [(api_Type.mk 0 ⟨#[]⟩ [])] _ (api_Type.mk 0 ⟨#[]⟩ []) rfl (by simp)) (.nil)))) (by simp [f3, f13, f14]) rfl (fun t' ht' => ?_)
  refine Stk.gen (fun t H n => ∃ b8, t 3 = .own b1 0 ∧ t 15 = .osl b8 0 ([(api_Type.mk 0 ⟨#[]⟩ []), (api_Type.mk 0 ⟨#[]⟩ [])] : List api_Type).length (some ([(api_Type.mk 0 ⟨#[]⟩ []), (api_Type.mk 0 ⟨#[]⟩ [])] : List api_Type).length) ∧ H b1 = some (.cells (c62 (api_Type.mk 0 ⟨#[]⟩ [])) 62) ∧ b1 < n ∧ H b8 = some (.cells (encs c62 ([(api_Type.mk 0 ⟨#[]⟩ []), (api_Type.mk 0 ⟨#[]⟩ [])] : List api_Type)) 62) ∧ b8 < n ∧ b1 ≠ b8 ∧ n0 ≤ n) ⟨n, by simp [ht', f3], by simp [ht'], (upd_ne _ _ (Nat.ne_of_lt l_b1)).trans b_b1, Nat.lt_succ_of_lt l_b1, upd_same _ _ _, Nat.lt_succ_self _, Nat.ne_of_lt l_b1, Nat.le_succ_of_le ln0⟩ ?_
  clear f3 f13 f14 b_b1 l_b1 ln0 ht' t'
  rintro t H n ⟨b8, f3, f15, b_b1, l_b1, b_b8, l_b8, d_b1_b8, ln0⟩
  obtain ⟨x9, hx9, h⟩ := bnd h
  refine Stk.cvD (g := 37) (args := []) (args' := []) (v := .agg (c62 x9)) [] (ok_R09_Bool F  _ hx9) rfl (by simp) rfl (by simp [f3, f15]) rfl rfl (by simp [f3, f15]) (.nil) (.inl ⟨rfl, fr62 _⟩) (fun t' ht' => ?_)
  refine Stk.gen (fun t H n => t 3 = .own b1 0 ∧ t 15 = .osl b8 0 ([(api_Type.mk 0 ⟨#[]⟩ []), (api_Type.mk 0 ⟨#[]⟩ [])] : List api_Type).length (some ([(api_Type.mk 0 ⟨#[]⟩ []), (api_Type.mk 0 ⟨#[]⟩ [])] : List api_Type).length) ∧ t 16 = .agg (c62 x9) ∧ H b1 = some (.cells (c62 (api_Type.mk 0 ⟨#[]⟩ [])) 62) ∧ b1 < n ∧ H b8 = some (.cells (encs c62 ([(api_Type.mk 0 ⟨#[]⟩ []), (api_Type.mk 0 ⟨#[]⟩ [])] : List api_Type)) 62) ∧ b8 < n ∧ b1 ≠ b8 ∧ n0 ≤ n) ⟨by simp [ht', f3], by simp [ht', f15], by simp [ht'], b_b1, l_b1, b_b8, l_b8, d_b1_b8, ln0⟩ ?_
  clear f3 f15 b_b1 l_b1 b_b8 l_b8 d_b1_b8 ln0 ht' t'
  rintro t H n ⟨f3, f15, f16, b_b1, l_b1, b_b8, l_b8, d_b1_b8, ln0⟩
  refine Stk.runD 1 (fun t H n => t 2 = .osl b8 0 ([(api_Type.mk 0 ⟨#[]⟩ []), (api_Type.mk 0 ⟨#[]⟩ [])] : List api_Type).length (some ([(api_Type.mk 0 ⟨#[]⟩ []), (api_Type.mk 0 ⟨#[]⟩ [])] : List api_Type).length) ∧ t 3 = .own b1 0 ∧ t 16 = .agg (c62 x9) ∧ H b1 = some (.cells (c62 (api_Type.mk 0 ⟨#[]⟩ [])) 62) ∧ b1 < n ∧ H b8 = some (.cells (encs c62 ([(api_Type.mk 0 ⟨#[]⟩ []), (api_Type.mk 0 ⟨#[]⟩ [])] : List api_Type)) 62) ∧ b8 < n ∧ b1 ≠ b8 ∧ n0 ≤ n) (fun J hJ => ?_) ?_
  ·simp [-splice, f3, f15, f16, b_b1, b_b8]
   exact hJ _ _ _ ⟨by simp [-splice, f3, f15, f16, b_b1, b_b8], by simp [f3], by simp [f16], b_b1, l_b1, b_b8, l_b8, d_b1_b8, ln0⟩
  clear f3 f15 f16 b_b1 l_b1 b_b8 l_b8 d_b1_b8 ln0
  rintro t H n ⟨f2, f3, f16, b_b1, l_b1, b_b8, l_b8, d_b1_b8, ln0⟩
  refine Stk.omD (S := [b1]) (b := n0) rfl (fun j hj hm => upd_ne _ _ (by simpa using hm)) rfl (mop_store (z := 3) rfl f3 b_b1 f16 (len62 _) (by rw [len62]; decide) (ok62 _) (st_62_0_62 _ _)) (by simp [f2, f3, f16]) rfl (fun t' ht' => ?_)
  refine Stk.gen (fun t H n => t 2 = .osl b8 0 ([(api_Type.mk 0 ⟨#[]⟩ []), (api_Type.mk 0 ⟨#[]⟩ [])] : List api_Type).length (some ([(api_Type.mk 0 ⟨#[]⟩ []), (api_Type.mk 0 ⟨#[]⟩ [])] : List api_Type).length) ∧ t 3 = .own b1 0 ∧ H b1 = some (.cells (c62 x9) 62) ∧ b1 < n ∧ H b8 = some (.cells (encs c62 ([(api_Type.mk 0 ⟨#[]⟩ []), (api_Type.mk 0 ⟨#[]⟩ [])] : List api_Type)) 62) ∧ b8 < n ∧ b1 ≠ b8 ∧ n0 ≤ n) ⟨by simp [ht', f2], by simp [ht', f3], upd_same _ _ _, l_b1, (upd_ne _ _ (Ne.symm d_b1_b8)).trans b_b8, l_b8, d_b1_b8, ln0⟩ ?_
  clear f2 f3 f16 b_b1 l_b1 b_b8 l_b8 d_b1_b8 ln0 ht' t'
  rintro t H n ⟨f2, f3, b_b1, l_b1, b_b8, l_b8, d_b1_b8, ln0⟩
  refine Stk.onD ?_
  refine Stk.rt ?_
  have hq := Option.some.inj h; subst hq
  exact (hr _ _ _ (.tup [.osl b8 0 ([(api_Type.mk 0 ⟨#[]⟩ []), (api_Type.mk 0 ⟨#[]⟩ [])] : List api_Type).length (some ([(api_Type.mk 0 ⟨#[]⟩ []), (api_Type.mk 0 ⟨#[]⟩ [])] : List api_Type).length), .agg (c62 x9)]) ([b8]) (by simp [f2, f3, b_b1, b_b8, ld_62_0_62]) (.inr (.inr (.tup (.cons (view_rowF fr62 b_b8 (by simp)) (.cons (.free (fr62 _)) (.nil))))))).1
 ·have h := cF hb7 h
  refine Stk.sq ?_
  refine Stk.rg ?_
  refine Stk.run 2 (fun t H n => t 3 = .own b1 0 ∧ t 4 = .own b2 0 ∧ t 5 = .own b3 0 ∧ t 8 = .sc (.int .i64 a0) ∧ t 17 = .sc (.bool (a0 == 8)) ∧ H b1 = some (.cells (c62 (api_Type.mk 0 ⟨#[]⟩ [])) 62) ∧ b1 < n ∧ H b2 = some (.cells (c62 (api_Type.mk 0 ⟨#[]⟩ [])) 62) ∧ b2 < n ∧ H b3 = some (.cells (c62 (api_Type.mk 1 ⟨#[]⟩ [])) 62) ∧ b3 < n ∧ b1 ≠ b2 ∧ b1 ≠ b3 ∧ b2 ≠ b3) (fun J hJ => ?_) ?_
  ·simp [-splice, f3, f4, f5, f8, f9, b_b1, b_b2, b_b3]
   exact hJ _ _ _ ⟨by simp [f3], by simp [f4], by simp [f5], by simp [f8], by simp [-splice, f3, f4, f5, f8, f9, b_b1, b_b2, b_b3], b_b1, l_b1, b_b2, l_b2, b_b3, l_b3, d_b1_b2, d_b1_b3, d_b2_b3⟩
  clear f3 f4 f5 f8 f9 b_b1 l_b1 b_b2 l_b2 b_b3 l_b3 d_b1_b2 d_b1_b3 d_b2_b3
  rintro t H n ⟨f3, f4, f5, f8, f17, b_b1, l_b1, b_b2, l_b2, b_b3, l_b3, d_b1_b2, d_b1_b3, d_b2_b3⟩
  refine Stk.on ?_
  refine Stk.cond (a0 == 8) (by exact f17) (fun hb10 => ?_) (fun hb10 => ?_)
  ·have h := cT hb10 h
   refine Stk.sq ?_
   obtain ⟨n0, hn0⟩ : ∃ m, m = n := ⟨n, rfl⟩
   have ln0 : n0 ≤ n := Nat.le_of_eq hn0
   refine Stk.rgD [.rd [b3], .mem [] n0, .rd [b2], .rd [], .mem [b1] n0] none (by kernel_rfl) (by rfl) rfl (by simp [below, hn0, l_b1, hn0, l_b2, hn0, l_b3]) rfl ?_
   refine Stk.runD 1 (fun t H n => t 3 = .own b1 0 ∧ t 4 = .own b2 0 ∧ t 19 = .agg (c62 (api_Type.mk 1 ⟨#[]⟩ [])) ∧ H b1 = some (.cells (c62 (api_Type.mk 0 ⟨#[]⟩ [])) 62) ∧ b1 < n ∧ H b2 = some (.cells (c62 (api_Type.mk 0 ⟨#[]⟩ [])) 62) ∧ b2 < n ∧ b1 ≠ b2 ∧ n0 ≤ n) (fun J hJ => ?_) ?_
   ·simp [-splice, f3, f4, f5, f8, f17, b_b1, b_b2, b_b3, ld_62_0_62]
    exact hJ _ _ _ ⟨by simp [f3], by simp [f4], by simp [-splice, f3, f4, f5, f8, f17, b_b1, b_b2, b_b3, ld_62_0_62], b_b1, l_b1, b_b2, l_b2, d_b1_b2, ln0⟩
   clear f3 f4 f5 f8 f17 b_b1 l_b1 b_b2 l_b2 b_b3 l_b3 d_b1_b2 d_b1_b3 d_b2_b3 ln0
   rintro t H n ⟨f3, f4, f19, b_b1, l_b1, b_b2, l_b2, d_b1_b2, ln0⟩
   refine Stk.omD (S := []) (b := n0) rfl (fun j hj _ => upd_ne _ _ (by omega)) rfl (mop_buildN (c := c62) (z := 3) T.t60 rfl T.t62 rfl (by decide) rfl (by decide) [(api_Type.mk 1 ⟨#[]⟩ [])] rfl (.cons f19 rfl rfl rfl (len62 _) (by simp [length_encs]) (splice_next (c := c62) [] _ (api_Type.mk 1 ⟨#[]⟩ []) rfl (by simp)) (.nil))) (by simp [f3, f4, f19]) rfl (fun t' ht' => ?_)
   refine Stk.gen (fun t H n => ∃ b11, t 3 = .own b1 0 ∧ t 4 = .own b2 0 ∧ t 20 = .osl b11 0 ([(api_Type.mk 1 ⟨#[]⟩ [])] : List api_Type).length (some ([(api_Type.mk 1 ⟨#[]⟩ [])] : List api_Type).length) ∧ H b1 = some (.cells (c62 (api_Type.mk 0 ⟨#[]⟩ [])) 62) ∧ b1 < n ∧ H b2 = some (.cells (c62 (api_Type.mk 0 ⟨#[]⟩ [])) 62) ∧ b2 < n ∧ H b11 = some (.cells (encs c62 ([(api_Type.mk 1 ⟨#[]⟩ [])] : List api_Type)) 62) ∧ b11 < n ∧ b1 ≠ b2 ∧ b1 ≠ b11 ∧ b2 ≠ b11 ∧ n0 ≤ n) ⟨n, by simp [ht', f3], by simp [ht', f4], by simp [ht'], (upd_ne _ _ (Nat.ne_of_lt l_b1)).trans b_b1, Nat.lt_succ_of_lt l_b1, (upd_ne _ _ (Nat.ne_of_lt l_b2)).trans b_b2, Nat.lt_succ_of_lt l_b2, upd_same _ _ _, Nat.lt_succ_self _, d_b1_b2, Nat.ne_of_lt l_b1, Nat.ne_of_lt l_b2, Nat.le_succ_of_le ln0⟩ ?_
   clear f3 f4 f19 b_b1 l_b1 b_b2 l_b2 d_b1_b2 ln0 ht' t'
   rintro t H n ⟨b11, f3, f4, f20, b_b1, l_b1, b_b2, l_b2, b_b11, l_b11, d_b1_b2, d_b1_b11, d_b2_b11, ln0⟩
   refine Stk.runD 2 (fun t H n => t 2 = .osl b11 0 ([(api_Type.mk 1 ⟨#[]⟩ [])] : List api_Type).length (some ([(api_Type.mk 1 ⟨#[]⟩ [])] : List api_Type).length) ∧ t 3 = .own b1 0 ∧ t 21 = .agg (c62 (api_Type.mk 0 ⟨#[]⟩ [])) ∧ H b1 = some (.cells (c62 (api_Type.mk 0 ⟨#[]⟩ [])) 62) ∧ b1 < n ∧ H b11 = some (.cells (encs c62 ([(api_Type.mk 1 ⟨#[]⟩ [])] : List api_Type)) 62) ∧ b11 < n ∧ b1 ≠ b11 ∧ n0 ≤ n) (fun J hJ => ?_) ?_
   ·simp [-splice, f3, f4, f20, b_b1, b_b2, b_b11, ld_62_0_62]
    exact hJ _ _ _ ⟨by simp [-splice, f3, f4, f20, b_b1, b_b2, b_b11, ld_62_0_62], by simp [f3], by simp [-splice, f3, f4, f20, b_b1, b_b2, b_b11, ld_62_0_62], b_b1, l_b1, b_b11, l_b11, d_b1_b11, ln0⟩
   clear f3 f4 f20 b_b1 l_b1 b_b2 l_b2 b_b11 l_b11 d_b1_b2 d_b1_b11 d_b2_b11 ln0
   rintro t H n ⟨f2, f3, f21, b_b1, l_b1, b_b11, l_b11, d_b1_b11, ln0⟩
   refine Stk.omD (S := [b1]) (b := n0) rfl (fun j hj hm => upd_ne _ _ (by simpa using hm)) rfl (mop_store (z := 3) rfl f3 b_b1 f21 (len62 _) (by rw [len62]; decide) (ok62 _) (st_62_0_62 _ _)) (by simp [f2, f3, f21]) rfl (fun t' ht' => ?_)
   refine Stk.gen (fun t H n => t 2 = .osl b11 0 ([(api_Type.mk 1 ⟨#[]⟩ [])] : List api_Type).length (some ([(api_Type.mk 1 ⟨#[]⟩ [])] : List api_Type).length) ∧ t 3 = .own b1 0 ∧ H b1 = some (.cells (c62 (api_Type.mk 0 ⟨#[]⟩ [])) 62) ∧ b1 < n ∧ H b11 = some (.cells (encs c62 ([(api_Type.mk 1 ⟨#[]⟩ [])] : List api_Type)) 62) ∧ b11 < n ∧ b1 ≠ b11 ∧ n0 ≤ n) ⟨by simp [ht', f2], by simp [ht', f3], upd_same _ _ _, l_b1, (upd_ne _ _ (Ne.symm d_b1_b11)).trans b_b11, l_b11, d_b1_b11, ln0⟩ ?_
   clear f2 f3 f21 b_b1 l_b1 b_b11 l_b11 d_b1_b11 ln0 ht' t'
   rintro t H n ⟨f2, f3, b_b1, l_b1, b_b11, l_b11, d_b1_b11, ln0⟩
   refine Stk.onD ?_
   refine Stk.rt ?_
   have hq := Option.some.inj h; subst hq
   exact (hr _ _ _ (.tup [.osl b11 0 ([(api_Type.mk 1 ⟨#[]⟩ [])] : List api_Type).length (some ([(api_Type.mk 1 ⟨#[]⟩ [])] : List api_Type).length), .agg (c62 (api_Type.mk 0 ⟨#[]⟩ []))]) ([b11]) (by simp [f2, f3, b_b1, b_b11, ld_62_0_62]) (.inr (.inr (.tup (.cons (view_rowF fr62 b_b11 (by simp)) (.cons (.free (fr62 _)) (.nil))))))).1
  ·have h := cF hb10 h
   refine Stk.sq ?_
   refine Stk.rg ?_
   refine Stk.run 2 (fun t H n => t 3 = .own b1 0 ∧ t 4 = .own b2 0 ∧ t 5 = .own b3 0 ∧ t 8 = .sc (.int .i64 a0) ∧ t 22 = .sc (.bool (a0 == 9)) ∧ H b1 = some (.cells (c62 (api_Type.mk 0 ⟨#[]⟩ [])) 62) ∧ b1 < n ∧ H b2 = some (.cells (c62 (api_Type.mk 0 ⟨#[]⟩ [])) 62) ∧ b2 < n ∧ H b3 = some (.cells (c62 (api_Type.mk 1 ⟨#[]⟩ [])) 62) ∧ b3 < n ∧ b1 ≠ b2 ∧ b1 ≠ b3 ∧ b2 ≠ b3) (fun J hJ => ?_) ?_
   ·simp [-splice, f3, f4, f5, f8, f17, b_b1, b_b2, b_b3]
    exact hJ _ _ _ ⟨by simp [f3], by simp [f4], by simp [f5], by simp [f8], by simp [-splice, f3, f4, f5, f8, f17, b_b1, b_b2, b_b3], b_b1, l_b1, b_b2, l_b2, b_b3, l_b3, d_b1_b2, d_b1_b3, d_b2_b3⟩
   clear f3 f4 f5 f8 f17 b_b1 l_b1 b_b2 l_b2 b_b3 l_b3 d_b1_b2 d_b1_b3 d_b2_b3
   rintro t H n ⟨f3, f4, f5, f8, f22, b_b1, l_b1, b_b2, l_b2, b_b3, l_b3, d_b1_b2, d_b1_b3, d_b2_b3⟩
   refine Stk.on ?_
   refine Stk.cond (a0 == 9) (by exact f22) (fun hb12 => ?_) (fun hb12 => ?_)
   ·have h := cT hb12 h
    refine Stk.sq ?_
    obtain ⟨n0, hn0⟩ : ∃ m, m = n := ⟨n, rfl⟩
    have ln0 : n0 ≤ n := Nat.le_of_eq hn0
    refine Stk.rgD [.rd [b3], .rd [b2], .mem [] n0, .rd [b2], .rd [], .mem [b1] n0] none (by kernel_rfl) (by rfl) rfl (by simp [below, hn0, l_b1, hn0, l_b2, hn0, l_b3]) rfl ?_
    refine Stk.runD 2 (fun t H n => t 3 = .own b1 0 ∧ t 4 = .own b2 0 ∧ t 24 = .agg (c62 (api_Type.mk 1 ⟨#[]⟩ [])) ∧ t 25 = .agg (c62 (api_Type.mk 0 ⟨#[]⟩ [])) ∧ H b1 = some (.cells (c62 (api_Type.mk 0 ⟨#[]⟩ [])) 62) ∧ b1 < n ∧ H b2 = some (.cells (c62 (api_Type.mk 0 ⟨#[]⟩ [])) 62) ∧ b2 < n ∧ b1 ≠ b2 ∧ n0 ≤ n) (fun J hJ => ?_) ?_
    ·simp [-splice, f3, f4, f5, f8, f22, b_b1, b_b2, b_b3, ld_62_0_62]
     exact hJ _ _ _ ⟨by simp [f3], by simp [f4], by simp [-splice, f3, f4, f5, f8, f22, b_b1, b_b2, b_b3, ld_62_0_62], by simp [-splice, f3, f4, f5, f8, f22, b_b1, b_b2, b_b3, ld_62_0_62], b_b1, l_b1, b_b2, l_b2, d_b1_b2, ln0⟩
    clear f3 f4 f5 f8 f22 b_b1 l_b1 b_b2 l_b2 b_b3 l_b3 d_b1_b2 d_b1_b3 d_b2_b3 ln0
    rintro t H n ⟨f3, f4, f24, f25, b_b1, l_b1, b_b2, l_b2, d_b1_b2, ln0⟩
    refine Stk.omD (S := []) (b := n0) rfl (fun j hj _ => upd_ne _ _ (by omega)) rfl (mop_buildN (c := c62) (z := 3) T.t60 rfl T.t62 rfl (by decide) rfl (by decide) [(api_Type.mk 1 ⟨#[]⟩ []), (api_Type.mk 0 ⟨#[]⟩ [])] rfl (.cons f24 rfl rfl rfl (len62 _) (by simp [length_encs]) (splice_next (c := c62) [] _ (api_Type.mk 1 ⟨#[]⟩ []) rfl (by simp)) (.cons f25 rfl rfl rfl (len62 _) (by simp [length_encs]) (splice_next (c := c62) [(api_Type.mk 1 ⟨#[]⟩ [])] _ (api_Type.mk 0 ⟨#[]⟩ []) rfl (by simp)) (.nil)))) (by simp [f3, f4, f24, f25]) rfl (fun t' ht' => ?_)
    refine Stk.gen (fun t H n => ∃ b13, t 3 = .own b1 0 ∧ t 4 = .own b2 0 ∧ t 26 = .osl b13 0 ([(api_Type.mk 1 ⟨#[]⟩ []), (api_Type.mk 0 ⟨#[]⟩ [])] : List api_Type).length (some ([(api_Type.mk 1 ⟨#[]⟩ []), (api_Type.mk 0 ⟨#[]⟩ [])] : List api_Type).length) ∧ H b1 = some (.cells (c62 (api_Type.mk 0 ⟨#[]⟩ [])) 62) ∧ b1 < n ∧ H b2 = some (.cells (c62 (api_Type.mk 0 ⟨#[]⟩ [])) 62) ∧ b2 < n ∧ H b13 = some (.cells (encs c62 ([(api_Type.mk 1 ⟨#[]⟩ []), (api_Type.mk 0 ⟨#[]⟩ [])] : List api_Type)) 62) ∧ b13 < n ∧ b1 ≠ b2 ∧ b1 ≠ b13 ∧ b2 ≠ b13 ∧ n0 ≤ n) ⟨n, by simp [ht', f3], by simp [ht', f4], by simp [ht'], (upd_ne _ _ (Nat.ne_of_lt l_b1)).trans b_b1, Nat.lt_succ_of_lt l_b1, (upd_ne _ _ (Nat.ne_of_lt l_b2)).trans b_b2, Nat.lt_succ_of_lt l_b2, upd_same _ _ _, Nat.lt_succ_self _, d_b1_b2, Nat.ne_of_lt l_b1, Nat.ne_of_lt l_b2, Nat.le_succ_of_le ln0⟩ ?_
    clear f3 f4 f24 f25 b_b1 l_b1 b_b2 l_b2 d_b1_b2 ln0 ht' t'
    rintro t H n ⟨b13, f3, f4, f26, b_b1, l_b1, b_b2, l_b2, b_b13, l_b13, d_b1_b2, d_b1_b13, d_b2_b13, ln0⟩
    refine Stk.runD 2 (fun t H n => t 2 = .osl b13 0 ([(api_Type.mk 1 ⟨#[]⟩ []), (api_Type.mk 0 ⟨#[]⟩ [])] : List api_Type).length (some ([(api_Type.mk 1 ⟨#[]⟩ []), (api_Type.mk 0 ⟨#[]⟩ [])] : List api_Type).length) ∧ t 3 = .own b1 0 ∧ t 27 = .agg (c62 (api_Type.mk 0 ⟨#[]⟩ [])) ∧ H b1 = some (.cells (c62 (api_Type.mk 0 ⟨#[]⟩ [])) 62) ∧ b1 < n ∧ H b13 = some (.cells (encs c62 ([(api_Type.mk 1 ⟨#[]⟩ []), (api_Type.mk 0 ⟨#[]⟩ [])] : List api_Type)) 62) ∧ b13 < n ∧ b1 ≠ b13 ∧ n0 ≤ n) (fun J hJ => ?_) ?_
    ·simp [-splice, f3, f4, f26, b_b1, b_b2, b_b13, ld_62_0_62]
     exact hJ _ _ _ ⟨by simp [-splice, f3, f4, f26, b_b1, b_b2, b_b13, ld_62_0_62], by simp [f3], by simp [-splice, f3, f4, f26, b_b1, b_b2, b_b13, ld_62_0_62], b_b1, l_b1, b_b13, l_b13, d_b1_b13, ln0⟩
    clear f3 f4 f26 b_b1 l_b1 b_b2 l_b2 b_b13 l_b13 d_b1_b2 d_b1_b13 d_b2_b13 ln0
    rintro t H n ⟨f2, f3, f27, b_b1, l_b1, b_b13, l_b13, d_b1_b13, ln0⟩
    refine Stk.omD (S := [b1]) (b := n0) rfl (fun j hj hm => upd_ne _ _ (by simpa using hm)) rfl (mop_store (z := 3) rfl f3 b_b1 f27 (len62 _) (by rw [len62]; decide) (ok62 _) (st_62_0_62 _ _)) (by simp [f2, f3, f27]) rfl (fun t' ht' => ?_)
    refine Stk.gen (fun t H n => t 2 = .osl b13 0 ([(api_Type.mk 1 ⟨#[]⟩ []), (api_Type.mk 0 ⟨#[]⟩ [])] : List api_Type).length (some ([(api_Type.mk 1 ⟨#[]⟩ []), (api_Type.mk 0 ⟨#[]⟩ [])] : List api_Type).length) ∧ t 3 = .own b1 0 ∧ H b1 = some (.cells (c62 (api_Type.mk 0 ⟨#[]⟩ [])) 62) ∧ b1 < n ∧ H b13 = some (.cells (encs c62 ([(api_Type.mk 1 ⟨#[]⟩ []), (api_Type.mk 0 ⟨#[]⟩ [])] : List api_Type)) 62) ∧ b13 < n ∧ b1 ≠ b13 ∧ n0 ≤ n) ⟨by simp [ht', f2], by simp [ht', f3], upd_same _ _ _, l_b1, (upd_ne _ _ (Ne.symm d_b1_b13)).trans b_b13, l_b13, d_b1_b13, ln0⟩ ?_
    clear f2 f3 f27 b_b1 l_b1 b_b13 l_b13 d_b1_b13 ln0 ht' t'
    rintro t H n ⟨f2, f3, b_b1, l_b1, b_b13, l_b13, d_b1_b13, ln0⟩
    refine Stk.onD ?_
    refine Stk.rt ?_
    have hq := Option.some.inj h; subst hq
    exact (hr _ _ _ (.tup [.osl b13 0 ([(api_Type.mk 1 ⟨#[]⟩ []), (api_Type.mk 0 ⟨#[]⟩ [])] : List api_Type).length (some ([(api_Type.mk 1 ⟨#[]⟩ []), (api_Type.mk 0 ⟨#[]⟩ [])] : List api_Type).length), .agg (c62 (api_Type.mk 0 ⟨#[]⟩ []))]) ([b13]) (by simp [f2, f3, b_b1, b_b13, ld_62_0_62]) (.inr (.inr (.tup (.cons (view_rowF fr62 b_b13 (by simp)) (.cons (.free (fr62 _)) (.nil))))))).1
   ·have h := cF hb12 h
    refine Stk.sq ?_
    refine Stk.rg ?_
    refine Stk.run 2 (fun t H n => t 3 = .own b1 0 ∧ t 4 = .own b2 0 ∧ t 5 = .own b3 0 ∧ t 8 = .sc (.int .i64 a0) ∧ t 28 = .sc (.bool (a0 == 10)) ∧ H b1 = some (.cells (c62 (api_Type.mk 0 ⟨#[]⟩ [])) 62) ∧ b1 < n ∧ H b2 = some (.cells (c62 (api_Type.mk 0 ⟨#[]⟩ [])) 62) ∧ b2 < n ∧ H b3 = some (.cells (c62 (api_Type.mk 1 ⟨#[]⟩ [])) 62) ∧ b3 < n ∧ b1 ≠ b2 ∧ b1 ≠ b3 ∧ b2 ≠ b3) (fun J hJ => ?_) ?_
    ·simp [-splice, f3, f4, f5, f8, f22, b_b1, b_b2, b_b3]
     exact hJ _ _ _ ⟨by simp [f3], by simp [f4], by simp [f5], by simp [f8], by simp [-splice, f3, f4, f5, f8, f22, b_b1, b_b2, b_b3], b_b1, l_b1, b_b2, l_b2, b_b3, l_b3, d_b1_b2, d_b1_b3, d_b2_b3⟩
    clear f3 f4 f5 f8 f22 b_b1 l_b1 b_b2 l_b2 b_b3 l_b3 d_b1_b2 d_b1_b3 d_b2_b3
    rintro t H n ⟨f3, f4, f5, f8, f28, b_b1, l_b1, b_b2, l_b2, b_b3, l_b3, d_b1_b2, d_b1_b3, d_b2_b3⟩
    refine Stk.on ?_
    refine Stk.cond (a0 == 10) (by exact f28) (fun hb14 => ?_) (fun hb14 => ?_)
    ·have h := cT hb14 h
     refine Stk.sq ?_
     obtain ⟨n0, hn0⟩ : ∃ m, m = n := ⟨n, rfl⟩
     have ln0 : n0 ≤ n := Nat.le_of_eq hn0
     refine Stk.rgD [.rd [b3], .rd [b3], .mem [] n0, .rd [b3], .rd [], .mem [b1] n0] none (by kernel_rfl) (by rfl) rfl (by simp [below, hn0, l_b1, hn0, l_b2, hn0, l_b3]) rfl ?_
     refine Stk.runD 2 (fun t H n => t 3 = .own b1 0 ∧ t 5 = .own b3 0 ∧ t 30 = .agg (c62 (api_Type.mk 1 ⟨#[]⟩ [])) ∧ t 31 = .agg (c62 (api_Type.mk 1 ⟨#[]⟩ [])) ∧ H b1 = some (.cells (c62 (api_Type.mk 0 ⟨#[]⟩ [])) 62) ∧ b1 < n ∧ H b3 = some (.cells (c62 (api_Type.mk 1 ⟨#[]⟩ [])) 62) ∧ b3 < n ∧ b1 ≠ b3 ∧ n0 ≤ n) (fun J hJ => ?_) ?_
     ·simp [-splice, f3, f4, f5, f8, f28, b_b1, b_b2, b_b3, ld_62_0_62]
      exact hJ _ _ _ ⟨by simp [f3], by simp [f5], by simp [-splice, f3, f4, f5, f8, f28, b_b1, b_b2, b_b3, ld_62_0_62], by simp [-splice, f3, f4, f5, f8, f28, b_b1, b_b2, b_b3, ld_62_0_62], b_b1, l_b1, b_b3, l_b3, d_b1_b3, ln0⟩
     clear f3 f4 f5 f8 f28 b_b1 l_b1 b_b2 l_b2 b_b3 l_b3 d_b1_b2 d_b1_b3 d_b2_b3 ln0
     rintro t H n ⟨f3, f5, f30, f31, b_b1, l_b1, b_b3, l_b3, d_b1_b3, ln0⟩
     refine Stk.omD (S := []) (b := n0) rfl (fun j hj _ => upd_ne _ _ (by omega)) rfl (mop_buildN (c := c62) (z := 3) T.t60 rfl T.t62 rfl (by decide) rfl (by decide) [(api_Type.mk 1 ⟨#[]⟩ []), (api_Type.mk 1 ⟨#[]⟩ [])] rfl (.cons f30 rfl rfl rfl (len62 _) (by simp [length_encs]) (splice_next (c := c62) [] _ (api_Type.mk 1 ⟨#[]⟩ []) rfl (by simp)) (.cons f31 rfl rfl rfl (len62 _) (by simp [length_encs]) (splice_next (c := c62) [(api_Type.mk 1 ⟨#[]⟩ [])] _ (api_Type.mk 1 ⟨#[]⟩ []) rfl (by simp)) (.nil)))) (by simp [f3, f5, f30, f31]) rfl (fun t' ht' => ?_)
     refine Stk.gen (fun t H n => ∃ b15, t 3 = .own b1 0 ∧ t 5 = .own b3 0 ∧ t 32 = .osl b15 0 ([(api_Type.mk 1 ⟨#[]⟩ []), (api_Type.mk 1 ⟨#[]⟩ [])] : List api_Type).length (some ([(api_Type.mk 1 ⟨#[]⟩ []), (api_Type.mk 1 ⟨#[]⟩ [])] : List api_Type).length) ∧ H b1 = some (.cells (c62 (api_Type.mk 0 ⟨#[]⟩ [])) 62) ∧ b1 < n ∧ H b3 = some (.cells (c62 (api_Type.mk 1 ⟨#[]⟩ [])) 62) ∧ b3 < n ∧ H b15 = some (.cells (encs c62 ([(api_Type.mk 1 ⟨#[]⟩ []), (api_Type.mk 1 ⟨#[]⟩ [])] : List api_Type)) 62) ∧ b15 < n ∧ b1 ≠ b3 ∧ b1 ≠ b15 ∧ b3 ≠ b15 ∧ n0 ≤ n) ⟨n, by simp [ht', f3], by simp [ht', f5], by simp [ht'], (upd_ne _ _ (Nat.ne_of_lt l_b1)).trans b_b1, Nat.lt_succ_of_lt l_b1, (upd_ne _ _ (Nat.ne_of_lt l_b3)).trans b_b3, Nat.lt_succ_of_lt l_b3, upd_same _ _ _, Nat.lt_succ_self _, d_b1_b3, Nat.ne_of_lt l_b1, Nat.ne_of_lt l_b3, Nat.le_succ_of_le ln0⟩ ?_
     clear f3 f5 f30 f31 b_b1 l_b1 b_b3 l_b3 d_b1_b3 ln0 ht' t'
     rintro t H n ⟨b15, f3, f5, f32, b_b1, l_b1, b_b3, l_b3, b_b15, l_b15, d_b1_b3, d_b1_b15, d_b3_b15, ln0⟩
     refine Stk.runD 2 (fun t H n => t 2 = .osl b15 0 ([(api_Type.mk 1 ⟨#[]⟩ []), (api_Type.mk 1 ⟨#[]⟩ [])] : List api_Type).length (some ([(api_Type.mk 1 ⟨#[]⟩ []), (api_Type.mk 1 ⟨#[]⟩ [])] : List api_Type).length) ∧ t 3 = .own b1 0 ∧ t 33 = .agg (c62 (api_Type.mk 1 ⟨#[]⟩ [])) ∧ H b1 = some (.cells (c62 (api_Type.mk 0 ⟨#[]⟩ [])) 62) ∧ b1 < n ∧ H b15 = some (.cells (encs c62 ([(api_Type.mk 1 ⟨#[]⟩ []), (api_Type.mk 1 ⟨#[]⟩ [])] : List api_Type)) 62) ∧ b15 < n ∧ b1 ≠ b15 ∧ n0 ≤ n) (fun J hJ => ?_) ?_
     ·simp [-splice, f3, f5, f32, b_b1, b_b3, b_b15, ld_62_0_62]
      exact hJ _ _ _ ⟨by simp [-splice, f3, f5, f32, b_b1, b_b3, b_b15, ld_62_0_62], by simp [f3], by simp [-splice, f3, f5, f32, b_b1, b_b3, b_b15, ld_62_0_62], b_b1, l_b1, b_b15, l_b15, d_b1_b15, ln0⟩
     clear f3 f5 f32 b_b1 l_b1 b_b3 l_b3 b_b15 l_b15 d_b1_b3 d_b1_b15 d_b3_b15 ln0
     rintro t H n ⟨f2, f3, f33, b_b1, l_b1, b_b15, l_b15, d_b1_b15, ln0⟩
     refine Stk.omD (S := [b1]) (b := n0) rfl (fun j hj hm => upd_ne _ _ (by simpa using hm)) rfl (mop_store (z := 3) rfl f3 b_b1 f33 (len62 _) (by rw [len62]; decide) (ok62 _) (st_62_0_62 _ _)) (by simp [f2, f3, f33]) rfl (fun t' ht' => ?_)
     refine Stk.gen (fun t H n => t 2 = .osl b15 0 ([(api_Type.mk 1 ⟨#[]⟩ []), (api_Type.mk 1 ⟨#[]⟩ [])] : List api_Type).length (some ([(api_Type.mk 1 ⟨#[]⟩ []), (api_Type.mk 1 ⟨#[]⟩ [])] : List api_Type).length) ∧ t 3 = .own b1 0 ∧ H b1 = some (.cells (c62 (api_Type.mk 1 ⟨#[]⟩ [])) 62) ∧ b1 < n ∧ H b15 = some (.cells (encs c62 ([(api_Type.mk 1 ⟨#[]⟩ []), (api_Type.mk 1 ⟨#[]⟩ [])] : List api_Type)) 62) ∧ b15 < n ∧ b1 ≠ b15 ∧ n0 ≤ n) ⟨by simp [ht', f2], by simp [ht', f3], upd_same _ _ _, l_b1, (upd_ne _ _ (Ne.symm d_b1_b15)).trans b_b15, l_b15, d_b1_b15, ln0⟩ ?_
     clear f2 f3 f33 b_b1 l_b1 b_b15 l_b15 d_b1_b15 ln0 ht' t'
     rintro t H n ⟨f2, f3, b_b1, l_b1, b_b15, l_b15, d_b1_b15, ln0⟩
     refine Stk.onD ?_
     refine Stk.rt ?_
     have hq := Option.some.inj h; subst hq
     exact (hr _ _ _ (.tup [.osl b15 0 ([(api_Type.mk 1 ⟨#[]⟩ []), (api_Type.mk 1 ⟨#[]⟩ [])] : List api_Type).length (some ([(api_Type.mk 1 ⟨#[]⟩ []), (api_Type.mk 1 ⟨#[]⟩ [])] : List api_Type).length), .agg (c62 (api_Type.mk 1 ⟨#[]⟩ []))]) ([b15]) (by simp [f2, f3, b_b1, b_b15, ld_62_0_62]) (.inr (.inr (.tup (.cons (view_rowF fr62 b_b15 (by simp)) (.cons (.free (fr62 _)) (.nil))))))).1
    ·have h := cF hb14 h
     refine Stk.sq ?_
     refine Stk.rg ?_
     refine Stk.run 2 (fun t H n => t 3 = .own b1 0 ∧ t 4 = .own b2 0 ∧ t 5 = .own b3 0 ∧ t 34 = .sc (.bool (a0 == 11)) ∧ H b1 = some (.cells (c62 (api_Type.mk 0 ⟨#[]⟩ [])) 62) ∧ b1 < n ∧ H b2 = some (.cells (c62 (api_Type.mk 0 ⟨#[]⟩ [])) 62) ∧ b2 < n ∧ H b3 = some (.cells (c62 (api_Type.mk 1 ⟨#[]⟩ [])) 62) ∧ b3 < n ∧ b1 ≠ b2 ∧ b1 ≠ b3 ∧ b2 ≠ b3) (fun J hJ => ?_) ?_
     ·simp [-splice, f3, f4, f5, f8, f28, b_b1, b_b2, b_b3]
      exact hJ _ _ _ ⟨by simp [f3], by simp [f4], by simp [f5], by simp [-splice, f3, f4, f5, f8, f28, b_b1, b_b2, b_b3], b_b1, l_b1, b_b2, l_b2, b_b3, l_b3, d_b1_b2, d_b1_b3, d_b2_b3⟩
     clear f3 f4 f5 f8 f28 b_b1 l_b1 b_b2 l_b2 b_b3 l_b3 d_b1_b2 d_b1_b3 d_b2_b3
     rintro t H n ⟨f3, f4, f5, f34, b_b1, l_b1, b_b2, l_b2, b_b3, l_b3, d_b1_b2, d_b1_b3, d_b2_b3⟩
     refine Stk.on ?_
     refine Stk.cond (a0 == 11) (by exact f34) (fun hb16 => ?_) (fun hb16 => ?_)
     ·have h := cT hb16 h
      refine Stk.sq ?_
      obtain ⟨n0, hn0⟩ : ∃ m, m = n := ⟨n, rfl⟩
      have ln0 : n0 ≤ n := Nat.le_of_eq hn0
      refine Stk.rgD [.rd [b3], .rd [b2], .rd [b2], .mem [] n0, .rd [b3], .rd [], .mem [b1] n0] none (by kernel_rfl) (by rfl) rfl (by simp [below, hn0, l_b1, hn0, l_b2, hn0, l_b3]) rfl ?_
      refine Stk.runD 3 (fun t H n => t 3 = .own b1 0 ∧ t 5 = .own b3 0 ∧ t 36 = .agg (c62 (api_Type.mk 1 ⟨#[]⟩ [])) ∧ t 37 = .agg (c62 (api_Type.mk 0 ⟨#[]⟩ [])) ∧ t 38 = .agg (c62 (api_Type.mk 0 ⟨#[]⟩ [])) ∧ H b1 = some (.cells (c62 (api_Type.mk 0 ⟨#[]⟩ [])) 62) ∧ b1 < n ∧ H b3 = some (.cells (c62 (api_Type.mk 1 ⟨#[]⟩ [])) 62) ∧ b3 < n ∧ b1 ≠ b3 ∧ n0 ≤ n) (fun J hJ => ?_) ?_
      ·simp [-splice, f3, f4, f5, f34, b_b1, b_b2, b_b3, ld_62_0_62]
       exact hJ _ _ _ ⟨by simp [f3], by simp [f5], by simp [-splice, f3, f4, f5, f34, b_b1, b_b2, b_b3, ld_62_0_62], by simp [-splice, f3, f4, f5, f34, b_b1, b_b2, b_b3, ld_62_0_62], by simp [-splice, f3, f4, f5, f34, b_b1, b_b2, b_b3, ld_62_0_62], b_b1, l_b1, b_b3, l_b3, d_b1_b3, ln0⟩
      clear f3 f4 f5 f34 b_b1 l_b1 b_b2 l_b2 b_b3 l_b3 d_b1_b2 d_b1_b3 d_b2_b3 ln0
      rintro t H n ⟨f3, f5, f36, f37, f38, b_b1, l_b1, b_b3, l_b3, d_b1_b3, ln0⟩
      refine Stk.omD (S := []) (b := n0) rfl (fun j hj _ => upd_ne _ _ (by omega)) rfl (mop_buildN (c := c62) (z := 3) T.t60 rfl T.t62 rfl (by decide) rfl (by decide) [(api_Type.mk 1 ⟨#[]⟩ []), (api_Type.mk 0 ⟨#[]⟩ []), (api_Type.mk 0 ⟨#[]⟩ [])] rfl (.cons f36 rfl rfl rfl (len62 _) (by simp [length_encs]) (splice_next (c := c62) [] _ (api_Type.mk 1 ⟨#[]⟩ []) rfl (by simp)) (.cons f37 rfl rfl rfl (len62 _) (by simp [length_encs]) (splice_next (c := c62) [(api_Type.mk 1 ⟨#[]⟩ [])] _ (api_Type.mk 0 ⟨#[]⟩ []) rfl (by simp)) (.cons f38 rfl rfl rfl (len62 _) (by simp [length_encs]) (splice_next (c := c62) [(api_Type.mk 1 ⟨#[]⟩ []), (api_Type.mk 0 ⟨#[]⟩ [])] _ (api_Type.mk 0 ⟨#[]⟩ []) rfl (by simp)) (.nil))))) (by simp [f3, f5, f36, f37, f38]) rfl (fun t' ht' => ?_)
      refine Stk.gen (fun t H n => ∃ b17, t 3 = .own b1 0 ∧ t 5 = .own b3 0 ∧ t 39 = .osl b17 0 ([(api_Type.mk 1 ⟨#[]⟩ []), (api_Type.mk 0 ⟨#[]⟩ []), (api_Type.mk 0 ⟨#[]⟩ [])] : List api_Type).length (some ([(api_Type.mk 1 ⟨#[]⟩ []), (api_Type.mk 0 ⟨#[]⟩ []), (api_Type.mk 0 ⟨#[]⟩ [])] : List api_Type).length) ∧ H b1 = some (.cells (c62 (api_Type.mk 0 ⟨#[]⟩ [])) 62) ∧ b1 < n ∧ H b3 = some (.cells (c62 (api_Type.mk 1 ⟨#[]⟩ [])) 62) ∧ b3 < n ∧ H b17 = some (.cells (encs c62 ([(api_Type.mk 1 ⟨#[]⟩ []), (api_Type.mk 0 ⟨#[]⟩ []), (api_Type.mk 0 ⟨#[]⟩ [])] : List api_Type)) 62) ∧ b17 < n ∧ b1 ≠ b3 ∧ b1 ≠ b17 ∧ b3 ≠ b17 ∧ n0 ≤ n) ⟨n, by simp [ht', f3], by simp [ht', f5], by simp [ht'], (upd_ne _ _ (Nat.ne_of_lt l_b1)).trans b_b1, Nat.lt_succ_of_lt l_b1, (upd_ne _ _ (Nat.ne_of_lt l_b3)).trans b_b3, Nat.lt_succ_of_lt l_b3, upd_same _ _ _, Nat.lt_succ_self _, d_b1_b3, Nat.ne_of_lt l_b1, Nat.ne_of_lt l_b3, Nat.le_succ_of_le ln0⟩ ?_
      clear f3 f5 f36 f37 f38 b_b1 l_b1 b_b3 l_b3 d_b1_b3 ln0 ht' t'
      rintro t H n ⟨b17, f3, f5, f39, b_b1, l_b1, b_b3, l_b3, b_b17, l_b17, d_b1_b3, d_b1_b17, d_b3_b17, ln0⟩
      refine Stk.runD 2 (fun t H n => t 2 = .osl b17 0 ([(api_Type.mk 1 ⟨#[]⟩ []), (api_Type.mk 0 ⟨#[]⟩ []), (api_Type.mk 0 ⟨#[]⟩ [])] : List api_Type).length (some ([(api_Type.mk 1 ⟨#[]⟩ []), (api_Type.mk 0 ⟨#[]⟩ []), (api_Type.mk 0 ⟨#[]⟩ [])] : List api_Type).length) ∧ t 3 = .own b1 0 ∧ t 40 = .agg (c62 (api_Type.mk 1 ⟨#[]⟩ [])) ∧ H b1 = some (.cells (c62 (api_Type.mk 0 ⟨#[]⟩ [])) 62) ∧ b1 < n ∧ H b17 = some (.cells (encs c62 ([(api_Type.mk 1 ⟨#[]⟩ []), (api_Type.mk 0 ⟨#[]⟩ []), (api_Type.mk 0 ⟨#[]⟩ [])] : List api_Type)) 62) ∧ b17 < n ∧ b1 ≠ b17 ∧ n0 ≤ n) (fun J hJ => ?_) ?_
      ·simp [-splice, f3, f5, f39, b_b1, b_b3, b_b17, ld_62_0_62]
       exact hJ _ _ _ ⟨by simp [-splice, f3, f5, f39, b_b1, b_b3, b_b17, ld_62_0_62], by simp [f3], by simp [-splice, f3, f5, f39, b_b1, b_b3, b_b17, ld_62_0_62], b_b1, l_b1, b_b17, l_b17, d_b1_b17, ln0⟩
      clear f3 f5 f39 b_b1 l_b1 b_b3 l_b3 b_b17 l_b17 d_b1_b3 d_b1_b17 d_b3_b17 ln0
      rintro t H n ⟨f2, f3, f40, b_b1, l_b1, b_b17, l_b17, d_b1_b17, ln0⟩
      refine Stk.omD (S := [b1]) (b := n0) rfl (fun j hj hm => upd_ne _ _ (by simpa using hm)) rfl (mop_store (z := 3) rfl f3 b_b1 f40 (len62 _) (by rw [len62]; decide) (ok62 _) (st_62_0_62 _ _)) (by simp [f2, f3, f40]) rfl (fun t' ht' => ?_)
      refine Stk.gen (fun t H n => t 2 = .osl b17 0 ([(api_Type.mk 1 ⟨#[]⟩ []), (api_Type.mk 0 ⟨#[]⟩ []), (api_Type.mk 0 ⟨#[]⟩ [])] : List api_Type).length (some ([(api_Type.mk 1 ⟨#[]⟩ []), (api_Type.mk 0 ⟨#[]⟩ []), (api_Type.mk 0 ⟨#[]⟩ [])] : List api_Type).length) ∧ t 3 = .own b1 0 ∧ H b1 = some (.cells (c62 (api_Type.mk 1 ⟨#[]⟩ [])) 62) ∧ b1 < n ∧ H b17 = some (.cells (encs c62 ([(api_Type.mk 1 ⟨#[]⟩ []), (api_Type.mk 0 ⟨#[]⟩ []), (api_Type.mk 0 ⟨#[]⟩ [])] : List api_Type)) 62) ∧ b17 < n ∧ b1 ≠ b17 ∧ n0 ≤ n) ⟨by simp [ht', f2], by simp [ht', f3], upd_same _ _ _, l_b1, (upd_ne _ _ (Ne.symm d_b1_b17)).trans b_b17, l_b17, d_b1_b17, ln0⟩ ?_
      clear f2 f3 f40 b_b1 l_b1 b_b17 l_b17 d_b1_b17 ln0 ht' t'
      rintro t H n ⟨f2, f3, b_b1, l_b1, b_b17, l_b17, d_b1_b17, ln0⟩
      refine Stk.onD ?_
      refine Stk.rt ?_
      have hq := Option.some.inj h; subst hq
      exact (hr _ _ _ (.tup [.osl b17 0 ([(api_Type.mk 1 ⟨#[]⟩ []), (api_Type.mk 0 ⟨#[]⟩ []), (api_Type.mk 0 ⟨#[]⟩ [])] : List api_Type).length (some ([(api_Type.mk 1 ⟨#[]⟩ []), (api_Type.mk 0 ⟨#[]⟩ []), (api_Type.mk 0 ⟨#[]⟩ [])] : List api_Type).length), .agg (c62 (api_Type.mk 1 ⟨#[]⟩ []))]) ([b17]) (by simp [f2, f3, b_b1, b_b17, ld_62_0_62]) (.inr (.inr (.tup (.cons (view_rowF fr62 b_b17 (by simp)) (.cons (.free (fr62 _)) (.nil))))))).1
     ·have h := cF hb16 h
      refine Stk.sk ?_
      refine Stk.bn ?_
      refine Stk.sq ?_
      obtain ⟨n0, hn0⟩ : ∃ m, m = n := ⟨n, rfl⟩
      have ln0 : n0 ≤ n := Nat.le_of_eq hn0
      refine Stk.rgD [.rd [b2], .rd [b2], .mem [] n0, .rd [b2], .rd [], .mem [b1] n0] none (by kernel_rfl) (by rfl) rfl (by simp [below, hn0, l_b1, hn0, l_b2, hn0, l_b3]) rfl ?_
      refine Stk.runD 2 (fun t H n => t 3 = .own b1 0 ∧ t 4 = .own b2 0 ∧ t 41 = .agg (c62 (api_Type.mk 0 ⟨#[]⟩ [])) ∧ t 42 = .agg (c62 (api_Type.mk 0 ⟨#[]⟩ [])) ∧ H b1 = some (.cells (c62 (api_Type.mk 0 ⟨#[]⟩ [])) 62) ∧ b1 < n ∧ H b2 = some (.cells (c62 (api_Type.mk 0 ⟨#[]⟩ [])) 62) ∧ b2 < n ∧ b1 ≠ b2 ∧ n0 ≤ n) (fun J hJ => ?_) ?_
      ·simp [-splice, f3, f4, f5, f34, b_b1, b_b2, b_b3, ld_62_0_62]
       exact hJ _ _ _ ⟨by simp [f3], by simp [f4], by simp [-splice, f3, f4, f5, f34, b_b1, b_b2, b_b3, ld_62_0_62], by simp [-splice, f3, f4, f5, f34, b_b1, b_b2, b_b3, ld_62_0_62], b_b1, l_b1, b_b2, l_b2, d_b1_b2, ln0⟩
      clear f3 f4 f5 f34 b_b1 l_b1 b_b2 l_b2 b_b3 l_b3 d_b1_b2 d_b1_b3 d_b2_b3 ln0
      rintro t H n ⟨f3, f4, f41, f42, b_b1, l_b1, b_b2, l_b2, d_b1_b2, ln0⟩
      refine Stk.omD (S := []) (b := n0) rfl (fun j hj _ => upd_ne _ _ (by omega)) rfl (mop_buildN (c := c62) (z := 3) T.t60 rfl T.t62 rfl (by decide) rfl (by decide) [(api_Type.mk 0 ⟨#[]⟩ []), (api_Type.mk 0 ⟨#[]⟩ [])] rfl (.cons f41 rfl rfl rfl (len62 _) (by simp [length_encs]) (splice_next (c := c62) [] _ (api_Type.mk 0 ⟨#[]⟩ []) rfl (by simp)) (.cons f42 rfl rfl rfl (len62 _) (by simp [length_encs]) (splice_next (c := c62) [(api_Type.mk 0 ⟨#[]⟩ [])] _ (api_Type.mk 0 ⟨#[]⟩ []) rfl (by simp)) (.nil)))) (by simp [f3, f4, f41, f42]) rfl (fun t' ht' => ?_)
      refine Stk.gen (fun t H n => ∃ b18, t 3 = .own b1 0 ∧ t 4 = .own b2 0 ∧ t 43 = .osl b18 0 ([(api_Type.mk 0 ⟨#[]⟩ []), (api_Type.mk 0 ⟨#[]⟩ [])] : List api_Type).length (some ([(api_Type.mk 0 ⟨#[]⟩ []), (api_Type.mk 0 ⟨#[]⟩ [])] : List api_Type).length) ∧ H b1 = some (.cells (c62 (api_Type.mk 0 ⟨#[]⟩ [])) 62) ∧ b1 < n ∧ H b2 = some (.cells (c62 (api_Type.mk 0 ⟨#[]⟩ [])) 62) ∧ b2 < n ∧ H b18 = some (.cells (encs c62 ([(api_Type.mk 0 ⟨#[]⟩ []), (api_Type.mk 0 ⟨#[]⟩ [])] : List api_Type)) 62) ∧ b18 < n ∧ b1 ≠ b2 ∧ b1 ≠ b18 ∧ b2 ≠ b18 ∧ n0 ≤ n) ⟨n, by simp [ht', f3], by simp [ht', f4], by simp [ht'], (upd_ne _ _ (Nat.ne_of_lt l_b1)).trans b_b1, Nat.lt_succ_of_lt l_b1, (upd_ne _ _ (Nat.ne_of_lt l_b2)).trans b_b2, Nat.lt_succ_of_lt l_b2, upd_same _ _ _, Nat.lt_succ_self _, d_b1_b2, Nat.ne_of_lt l_b1, Nat.ne_of_lt l_b2, Nat.le_succ_of_le ln0⟩ ?_
      clear f3 f4 f41 f42 b_b1 l_b1 b_b2 l_b2 d_b1_b2 ln0 ht' t'
      rintro t H n ⟨b18, f3, f4, f43, b_b1, l_b1, b_b2, l_b2, b_b18, l_b18, d_b1_b2, d_b1_b18, d_b2_b18, ln0⟩
      refine Stk.runD 2 (fun t H n => t 2 = .osl b18 0 ([(api_Type.mk 0 ⟨#[]⟩ []), (api_Type.mk 0 ⟨#[]⟩ [])] : List api_Type).length (some ([(api_Type.mk 0 ⟨#[]⟩ []), (api_Type.mk 0 ⟨#[]⟩ [])] : List api_Type).length) ∧ t 3 = .own b1 0 ∧ t 44 = .agg (c62 (api_Type.mk 0 ⟨#[]⟩ [])) ∧ H b1 = some (.cells (c62 (api_Type.mk 0 ⟨#[]⟩ [])) 62) ∧ b1 < n ∧ H b18 = some (.cells (encs c62 ([(api_Type.mk 0 ⟨#[]⟩ []), (api_Type.mk 0 ⟨#[]⟩ [])] : List api_Type)) 62) ∧ b18 < n ∧ b1 ≠ b18 ∧ n0 ≤ n) (fun J hJ => ?_) ?_
      ·simp [-splice, f3, f4, f43, b_b1, b_b2, b_b18, ld_62_0_62]
       exact hJ _ _ _ ⟨by simp [-splice, f3, f4, f43, b_b1, b_b2, b_b18, ld_62_0_62], by simp [f3], by simp [-splice, f3, f4, f43, b_b1, b_b2, b_b18, ld_62_0_62], b_b1, l_b1, b_b18, l_b18, d_b1_b18, ln0⟩
      clear f3 f4 f43 b_b1 l_b1 b_b2 l_b2 b_b18 l_b18 d_b1_b2 d_b1_b18 d_b2_b18 ln0
      rintro t H n ⟨f2, f3, f44, b_b1, l_b1, b_b18, l_b18, d_b1_b18, ln0⟩
      refine Stk.omD (S := [b1]) (b := n0) rfl (fun j hj hm => upd_ne _ _ (by simpa using hm)) rfl (mop_store (z := 3) rfl f3 b_b1 f44 (len62 _) (by rw [len62]; decide) (ok62 _) (st_62_0_62 _ _)) (by simp [f2, f3, f44]) rfl (fun t' ht' => ?_)
      refine Stk.gen (fun t H n => t 2 = .osl b18 0 ([(api_Type.mk 0 ⟨#[]⟩ []), (api_Type.mk 0 ⟨#[]⟩ [])] : List api_Type).length (some ([(api_Type.mk 0 ⟨#[]⟩ []), (api_Type.mk 0 ⟨#[]⟩ [])] : List api_Type).length) ∧ t 3 = .own b1 0 ∧ H b1 = some (.cells (c62 (api_Type.mk 0 ⟨#[]⟩ [])) 62) ∧ b1 < n ∧ H b18 = some (.cells (encs c62 ([(api_Type.mk 0 ⟨#[]⟩ []), (api_Type.mk 0 ⟨#[]⟩ [])] : List api_Type)) 62) ∧ b18 < n ∧ b1 ≠ b18 ∧ n0 ≤ n) ⟨by simp [ht', f2], by simp [ht', f3], upd_same _ _ _, l_b1, (upd_ne _ _ (Ne.symm d_b1_b18)).trans b_b18, l_b18, d_b1_b18, ln0⟩ ?_
      clear f2 f3 f44 b_b1 l_b1 b_b18 l_b18 d_b1_b18 ln0 ht' t'
      rintro t H n ⟨f2, f3, b_b1, l_b1, b_b18, l_b18, d_b1_b18, ln0⟩
      refine Stk.onD ?_
      refine Stk.rt ?_
      have hq := Option.some.inj h; subst hq
      exact (hr _ _ _ (.tup [.osl b18 0 ([(api_Type.mk 0 ⟨#[]⟩ []), (api_Type.mk 0 ⟨#[]⟩ [])] : List api_Type).length (some ([(api_Type.mk 0 ⟨#[]⟩ []), (api_Type.mk 0 ⟨#[]⟩ [])] : List api_Type).length), .agg (c62 (api_Type.mk 0 ⟨#[]⟩ []))]) ([b18]) (by simp [f2, f3, b_b1, b_b18, ld_62_0_62]) (.inr (.inr (.tup (.cons (view_rowF fr62 b_b18 (by simp)) (.cons (.free (fr62 _)) (.nil))))))).1
theorem ok_R19_Takes (F : Nat) (a0 : api_Inst) (r : (Int × Int)) (h : R19_Takes F a0 = some r) : RunF Try.prog T.T 14 [.agg (c44 a0)] (.tup [.sc (.int .i64 r.1), .sc (.int .i64 r.2)]) := by
 rw [R19_Takes] at h
 refine RunF.z Try.func14 rfl rfl rfl rfl rfl (fun C hr => ?_)
 refine Stk.gen (fun t H n => t 0 = .agg (c44 a0)) (by simp) ?_
 rintro t H n f0
 refine Stk.sq ?_
 refine Stk.rg ?_
 refine Stk.om (mop_box T.t44 (cs := c44 a0) (by show partOk (t 0) = true; rw [f0]; rfl) (by show cellsOf (t 0) = _; rw [f0]; rfl)) (by simp [f0]) rfl (fun t' ht' => ?_)
 refine Stk.gen (fun t H n => ∃ b1, t 1 = .own b1 0 ∧ H b1 = some (.cells (c44 a0) 44) ∧ b1 < n) ⟨n, by simp [ht'], upd_same _ _ _, Nat.lt_succ_self _⟩ ?_
 clear f0 ht' t'
 rintro t H n ⟨b1, f1, b_b1, l_b1⟩
 refine Stk.run 2 (fun t H n => t 1 = .own b1 0 ∧ H b1 = some (.cells (c44 a0) 44) ∧ b1 < n) (fun J hJ => ?_) ?_
 ·simp [-splice, f1, b_b1]
  exact hJ _ _ _ ⟨by simp [f1], b_b1, l_b1⟩
 clear f1 b_b1 l_b1
 rintro t H n ⟨f1, b_b1, l_b1⟩
 refine Stk.on ?_
 refine Stk.sq ?_
 refine Stk.sq ?_
 refine Stk.rg ?_
 refine Stk.run 1 (fun t H n => t 1 = .own b1 0 ∧ t 6 = .agg (c44 a0) ∧ H b1 = some (.cells (c44 a0) 44) ∧ b1 < n) (fun J hJ => ?_) ?_
 ·simp [-splice, f1, b_b1, ld_44_0_44]
  exact hJ _ _ _ ⟨by simp [f1], by simp [-splice, f1, b_b1, ld_44_0_44], b_b1, l_b1⟩
 clear f1 b_b1 l_b1
 rintro t H n ⟨f1, f6, b_b1, l_b1⟩
 obtain ⟨x2, hx2, h⟩ := bnd h
 refine Stk.cv (g := 21) (args := [.agg (c44 a0)]) (args' := [.agg (c44 a0)]) (v := .sc (.bool x2)) [] (ok_R19_Fit F _ _ hx2) (by simp [f1, f6]) rfl rfl (by simp [f1, f6]) (.cons (.free (fr44 _)) (.nil)) (.inl ⟨rfl, rfl⟩) (fun t' ht' => ?_)
 refine Stk.gen (fun t H n => t 1 = .own b1 0 ∧ t 7 = .sc (.bool x2) ∧ H b1 = some (.cells (c44 a0) 44) ∧ b1 < n) ⟨by simp [ht', f1], by simp [ht'], b_b1, l_b1⟩ ?_
 clear f1 f6 b_b1 l_b1 ht' t'
 rintro t H n ⟨f1, f7, b_b1, l_b1⟩
 refine Stk.run 1 (fun t H n => t 1 = .own b1 0 ∧ t 8 = .sc (.bool (!x2)) ∧ H b1 = some (.cells (c44 a0) 44) ∧ b1 < n) (fun J hJ => ?_) ?_
 ·simp [-splice, f1, f7, b_b1]
  exact hJ _ _ _ ⟨by simp [f1], by simp [-splice, f1, f7, b_b1], b_b1, l_b1⟩
 clear f1 f7 b_b1 l_b1
 rintro t H n ⟨f1, f8, b_b1, l_b1⟩
 refine Stk.on ?_
 refine Stk.cond (!x2) (by exact f8) (fun hb3 => ?_) (fun hb3 => ?_)
 ·have h := cT hb3 h
  refine Stk.sq ?_
  refine Stk.rg ?_
  refine Stk.run 2 (fun t H n => t 2 = .sc (.int .i64 0) ∧ t 3 = .sc (.int .i64 0)) (fun J hJ => ?_) ?_
  ·simp [-splice, f1, f8, b_b1]
   exact hJ _ _ _ ⟨by simp [-splice, f1, f8, b_b1], by simp [-splice, f1, f8, b_b1]⟩
  clear f1 f8 b_b1 l_b1
  rintro t H n ⟨f2, f3⟩
  refine Stk.on ?_
  refine Stk.rt ?_
  have hq := Option.some.inj h; subst hq
  exact (hr _ _ _ (.tup [.sc (.int .i64 0), .sc (.int .i64 0)]) ([]) (by simp [f2, f3]) (.inr (.inr (.tup (.cons (.free (rfl)) (.cons (.free (rfl)) (.nil))))))).1
 ·have h := cF hb3 h
  refine Stk.sk ?_
  refine Stk.sq ?_
  refine Stk.sq ?_
  refine Stk.rg ?_
  refine Stk.run 2 (fun t H n => t 1 = .own b1 0 ∧ t 10 = .sc (.int .i64 a0.Op) ∧ H b1 = some (.cells (c44 a0) 44) ∧ b1 < n) (fun J hJ => ?_) ?_
  ·simp [-splice, f1, f8, b_b1, ld_44_0_3]
   exact hJ _ _ _ ⟨by simp [f1], by simp [-splice, f1, f8, b_b1, ld_44_0_3], b_b1, l_b1⟩
  clear f1 f8 b_b1 l_b1
  rintro t H n ⟨f1, f10, b_b1, l_b1⟩
  refine Stk.on ?_
  refine Stk.bk ?_
  refine Stk.sq ?_
  refine Stk.sq ?_
  refine Stk.rg ?_
  refine Stk.run 2 (fun t H n => t 1 = .own b1 0 ∧ t 10 = .sc (.int .i64 a0.Op) ∧ t 11 = .sc (.bool (a0.Op == 0)) ∧ H b1 = some (.cells (c44 a0) 44) ∧ b1 < n) (fun J hJ => ?_) ?_
  ·simp [-splice, f1, f10, b_b1]
   exact hJ _ _ _ ⟨by simp [f1], by simp [f10], by simp [-splice, f1, f10, b_b1], b_b1, l_b1⟩
  clear f1 f10 b_b1 l_b1
  rintro t H n ⟨f1, f10, f11, b_b1, l_b1⟩
  refine Stk.on ?_
  obtain ⟨K1, hK1, h⟩ := jnd h
  refine Stk.jn (fun t H n => ∃ v4 : Bool, K1 v4 = some r ∧ t 1 = .own b1 0 ∧ t 10 = .sc (.int .i64 a0.Op) ∧ t 11 = .sc (.bool v4) ∧ H b1 = some (.cells (c44 a0) 44) ∧ b1 < n) trivial (fun J1 hJ1 => ?_) ?_
  ·skip
   refine Stk.cond (a0.Op == 0) (by exact f11) (fun hb5 => ?_) (fun hb5 => ?_)
   ·have h := cT hb5 h
    refine Stk.sk ?_
    exact Stk.ln 0 (by decide) (hJ1 _ _ _ ⟨(a0.Op == 0), h, f1, f10, f11, b_b1, l_b1⟩)
   ·have h := cF hb5 h
    refine Stk.sq ?_
    refine Stk.rg ?_
    refine Stk.run 2 (fun t H n => t 1 = .own b1 0 ∧ t 10 = .sc (.int .i64 a0.Op) ∧ t 11 = .sc (.bool (a0.Op == 1)) ∧ H b1 = some (.cells (c44 a0) 44) ∧ b1 < n) (fun J hJ => ?_) ?_
    ·simp [-splice, f1, f10, f11, b_b1]
     exact hJ _ _ _ ⟨by simp [f1], by simp [f10], by simp [-splice, f1, f10, f11, b_b1], b_b1, l_b1⟩
    clear f1 f10 f11 b_b1 l_b1
    rintro t H n ⟨f1, f10, f11, b_b1, l_b1⟩
    refine Stk.on ?_
    refine Stk.cond (a0.Op == 1) (by exact f11) (fun hb6 => ?_) (fun hb6 => ?_)
    ·have h := cT hb6 h
     refine Stk.sk ?_
     exact Stk.ln 0 (by decide) (hJ1 _ _ _ ⟨(a0.Op == 1), h, f1, f10, f11, b_b1, l_b1⟩)
    ·have h := cF hb6 h
     refine Stk.sq ?_
     refine Stk.rg ?_
     refine Stk.run 2 (fun t H n => t 1 = .own b1 0 ∧ t 10 = .sc (.int .i64 a0.Op) ∧ t 11 = .sc (.bool (a0.Op == 2)) ∧ H b1 = some (.cells (c44 a0) 44) ∧ b1 < n) (fun J hJ => ?_) ?_
     ·simp [-splice, f1, f10, f11, b_b1]
      exact hJ _ _ _ ⟨by simp [f1], by simp [f10], by simp [-splice, f1, f10, f11, b_b1], b_b1, l_b1⟩
     clear f1 f10 f11 b_b1 l_b1
     rintro t H n ⟨f1, f10, f11, b_b1, l_b1⟩
     refine Stk.on ?_
     refine Stk.cond (a0.Op == 2) (by exact f11) (fun hb7 => ?_) (fun hb7 => ?_)
     ·have h := cT hb7 h
      refine Stk.sk ?_
      exact Stk.ln 0 (by decide) (hJ1 _ _ _ ⟨(a0.Op == 2), h, f1, f10, f11, b_b1, l_b1⟩)
     ·have h := cF hb7 h
      refine Stk.rg ?_
      refine Stk.run 2 (fun t H n => t 1 = .own b1 0 ∧ t 10 = .sc (.int .i64 a0.Op) ∧ t 11 = .sc (.bool (a0.Op == 4)) ∧ H b1 = some (.cells (c44 a0) 44) ∧ b1 < n) (fun J hJ => ?_) ?_
      ·simp [-splice, f1, f10, f11, b_b1]
       exact hJ _ _ _ ⟨by simp [f1], by simp [f10], by simp [-splice, f1, f10, f11, b_b1], b_b1, l_b1⟩
      clear f1 f10 f11 b_b1 l_b1
      rintro t H n ⟨f1, f10, f11, b_b1, l_b1⟩
      refine Stk.on ?_
      exact Stk.ln 0 (by decide) (hJ1 _ _ _ ⟨(a0.Op == 4), h, f1, f10, f11, b_b1, l_b1⟩)
  clear h f1 f10 f11 b_b1 l_b1
  rintro t H n ⟨v4, h, f1, f10, f11, b_b1, l_b1⟩
  subst hK1
  refine Stk.cond v4 (by exact f11) (fun hb8 => ?_) (fun hb8 => ?_)
  ·have h := cT hb8 h
   refine Stk.sq ?_
   refine Stk.rg ?_
   refine Stk.run 2 (fun t H n => t 2 = .sc (.int .i64 0) ∧ t 3 = .sc (.int .i64 1)) (fun J hJ => ?_) ?_
   ·simp [-splice, f1, f10, f11, b_b1]
    exact hJ _ _ _ ⟨by simp [-splice, f1, f10, f11, b_b1], by simp [-splice, f1, f10, f11, b_b1]⟩
   clear f1 f10 f11 b_b1 l_b1
   rintro t H n ⟨f2, f3⟩
   refine Stk.on ?_
   refine Stk.rt ?_
   have hq := Option.some.inj h; subst hq
   exact (hr _ _ _ (.tup [.sc (.int .i64 0), .sc (.int .i64 1)]) ([]) (by simp [f2, f3]) (.inr (.inr (.tup (.cons (.free (rfl)) (.cons (.free (rfl)) (.nil))))))).1
  ·have h := cF hb8 h
   refine Stk.sq ?_
   refine Stk.sq ?_
   refine Stk.rg ?_
   refine Stk.run 2 (fun t H n => t 1 = .own b1 0 ∧ t 10 = .sc (.int .i64 a0.Op) ∧ t 16 = .sc (.bool (a0.Op == 3)) ∧ H b1 = some (.cells (c44 a0) 44) ∧ b1 < n) (fun J hJ => ?_) ?_
   ·simp [-splice, f1, f10, f11, b_b1]
    exact hJ _ _ _ ⟨by simp [f1], by simp [f10], by simp [-splice, f1, f10, f11, b_b1], b_b1, l_b1⟩
   clear f1 f10 f11 b_b1 l_b1
   rintro t H n ⟨f1, f10, f16, b_b1, l_b1⟩
   refine Stk.on ?_
   obtain ⟨K2, hK2, h⟩ := jnd h
   refine Stk.jn (fun t H n => ∃ v9 : Bool, K2 v9 = some r ∧ t 1 = .own b1 0 ∧ t 10 = .sc (.int .i64 a0.Op) ∧ t 16 = .sc (.bool v9) ∧ H b1 = some (.cells (c44 a0) 44) ∧ b1 < n) trivial (fun J2 hJ2 => ?_) ?_
   ·skip
    refine Stk.cond (a0.Op == 3) (by exact f16) (fun hb10 => ?_) (fun hb10 => ?_)
    ·have h := cT hb10 h
     refine Stk.sk ?_
     exact Stk.ln 0 (by decide) (hJ2 _ _ _ ⟨(a0.Op == 3), h, f1, f10, f16, b_b1, l_b1⟩)
    ·have h := cF hb10 h
     refine Stk.rg ?_
     refine Stk.run 2 (fun t H n => t 1 = .own b1 0 ∧ t 10 = .sc (.int .i64 a0.Op) ∧ t 16 = .sc (.bool (a0.Op == 6)) ∧ H b1 = some (.cells (c44 a0) 44) ∧ b1 < n) (fun J hJ => ?_) ?_
     ·simp [-splice, f1, f10, f16, b_b1]
      exact hJ _ _ _ ⟨by simp [f1], by simp [f10], by simp [-splice, f1, f10, f16, b_b1], b_b1, l_b1⟩
     clear f1 f10 f16 b_b1 l_b1
     rintro t H n ⟨f1, f10, f16, b_b1, l_b1⟩
     refine Stk.on ?_
     exact Stk.ln 0 (by decide) (hJ2 _ _ _ ⟨(a0.Op == 6), h, f1, f10, f16, b_b1, l_b1⟩)
   clear h f1 f10 f16 b_b1 l_b1
   rintro t H n ⟨v9, h, f1, f10, f16, b_b1, l_b1⟩
   subst hK2
   refine Stk.cond v9 (by exact f16) (fun hb11 => ?_) (fun hb11 => ?_)
   ·have h := cT hb11 h
    refine Stk.sq ?_
    refine Stk.rg ?_
    refine Stk.run 4 (fun t H n => t 2 = .sc (.int .i64 a0.B) ∧ t 3 = .sc (.int .i64 1)) (fun J hJ => ?_) ?_
    ·simp [-splice, f1, f10, f16, b_b1, ld_44_2_3]
     exact hJ _ _ _ ⟨by simp [-splice, f1, f10, f16, b_b1, ld_44_2_3], by simp [-splice, f1, f10, f16, b_b1, ld_44_2_3]⟩
    clear f1 f10 f16 b_b1 l_b1
    rintro t H n ⟨f2, f3⟩
    refine Stk.on ?_
    refine Stk.rt ?_
    have hq := Option.some.inj h; subst hq
    exact (hr _ _ _ (.tup [.sc (.int .i64 a0.B), .sc (.int .i64 1)]) ([]) (by simp [f2, f3]) (.inr (.inr (.tup (.cons (.free (rfl)) (.cons (.free (rfl)) (.nil))))))).1
   ·have h := cF hb11 h
    refine Stk.sq ?_
    refine Stk.rg ?_
    refine Stk.run 2 (fun t H n => t 1 = .own b1 0 ∧ t 10 = .sc (.int .i64 a0.Op) ∧ t 21 = .sc (.bool (a0.Op == 5)) ∧ H b1 = some (.cells (c44 a0) 44) ∧ b1 < n) (fun J hJ => ?_) ?_
    ·simp [-splice, f1, f10, f16, b_b1]
     exact hJ _ _ _ ⟨by simp [f1], by simp [f10], by simp [-splice, f1, f10, f16, b_b1], b_b1, l_b1⟩
    clear f1 f10 f16 b_b1 l_b1
    rintro t H n ⟨f1, f10, f21, b_b1, l_b1⟩
    refine Stk.on ?_
    refine Stk.cond (a0.Op == 5) (by exact f21) (fun hb12 => ?_) (fun hb12 => ?_)
    ·have h := cT hb12 h
     refine Stk.sq ?_
     refine Stk.rg ?_
     refine Stk.run 2 (fun t H n => t 25 = .sc (.int .i64 a0.A)) (fun J hJ => ?_) ?_
     ·simp [-splice, f1, f10, f21, b_b1, ld_44_1_3]
      exact hJ _ _ _ (by simp [-splice, f1, f10, f21, b_b1, ld_44_1_3])
     clear f1 f10 f21 b_b1 l_b1
     rintro t H n f25
     obtain ⟨x13, hx13, h⟩ := bnd h
     refine Stk.cv (g := 22) (args := [.sc (.int .i64 a0.A)]) (args' := [.sc (.int .i64 a0.A)]) (v := .tup [.ssl (encs c62 x13.1) x13.1.length true, .agg (c62 x13.2)]) [] (ok_R09_Ops F _ _ hx13) (by simp [f25]) rfl rfl (by simp [f25]) (.cons (.free (rfl)) (.nil)) (.inl ⟨rfl, by simp [free, freeL, freeL_encs fr62, fr62]⟩) (fun t' ht' => ?_)
     refine Stk.gen (fun t H n => t 26 = .tup [.ssl (encs c62 x13.1) x13.1.length true, .agg (c62 x13.2)]) (by simp [ht']) ?_
     clear f25 ht' t'
     rintro t H n f26
     refine Stk.run 3 (fun t H n => t 27 = .ssl (encs c62 x13.1) x13.1.length true ∧ t 28 = .agg (c62 x13.2)) (fun J hJ => ?_) ?_
     ·simp [-splice, f26]
      exact hJ _ _ _ ⟨by simp [-splice, f26], by simp [-splice, f26]⟩
     clear f26
     rintro t H n ⟨f27, f28⟩
     refine Stk.oz T.t62 (cs := c62 (api_Type.mk 0 ⟨#[]⟩ [])) (by rw [u62]; rfl) rfl (by simp [f27, f28]) rfl (fun t' ht' => ?_)
     refine Stk.gen (fun t H n => ∃ b14, t 5 = .own b14 0 ∧ t 27 = .ssl (encs c62 x13.1) x13.1.length true ∧ t 28 = .agg (c62 x13.2) ∧ H b14 = some (.cells (c62 (api_Type.mk 0 ⟨#[]⟩ [])) 62) ∧ b14 < n) ⟨n, by simp [ht'], by simp [ht', f27], by simp [ht', f28], upd_same _ _ _, Nat.lt_succ_self _⟩ ?_
     clear f27 f28 ht' t'
     rintro t H n ⟨b14, f5, f27, f28, b_b14, l_b14⟩
     refine Stk.run 1 (fun t H n => t 4 = .ssl (encs c62 x13.1) x13.1.length true ∧ t 5 = .own b14 0 ∧ t 28 = .agg (c62 x13.2) ∧ H b14 = some (.cells (c62 (api_Type.mk 0 ⟨#[]⟩ [])) 62) ∧ b14 < n) (fun J hJ => ?_) ?_
     ·simp [-splice, f5, f27, f28, b_b14]
      exact hJ _ _ _ ⟨by simp [-splice, f5, f27, f28, b_b14], by simp [f5], by simp [f28], b_b14, l_b14⟩
     clear f5 f27 f28 b_b14 l_b14
     rintro t H n ⟨f4, f5, f28, b_b14, l_b14⟩
     refine Stk.om (mop_store (z := 3) rfl f5 b_b14 f28 (len62 _) (by rw [len62]; decide) (ok62 _) (st_62_0_62 _ _)) (by simp [f4, f5, f28]) rfl (fun t' ht' => ?_)
     refine Stk.gen (fun t H n => t 4 = .ssl (encs c62 x13.1) x13.1.length true) (by simp [ht', f4]) ?_
     clear f4 f5 f28 b_b14 l_b14 ht' t'
     rintro t H n f4
     refine Stk.on ?_
     refine Stk.sq ?_
     refine Stk.rg ?_
     refine Stk.run 4 (fun t H n => t 2 = .sc (.int .i64 (x13.1.length : Int)) ∧ t 3 = .sc (.int .i64 1)) (fun J hJ => ?_) ?_
     ·simp [-splice, f4]
      exact hJ _ _ _ ⟨by simp [-splice, f4], by simp [-splice, f4]⟩
     clear f4
     rintro t H n ⟨f2, f3⟩
     refine Stk.on ?_
     refine Stk.rt ?_
     have hq := Option.some.inj h; subst hq
     exact (hr _ _ _ (.tup [.sc (.int .i64 (x13.1.length : Int)), .sc (.int .i64 1)]) ([]) (by simp [f2, f3]) (.inr (.inr (.tup (.cons (.free (rfl)) (.cons (.free (rfl)) (.nil))))))).1
    ·have h := cF hb12 h
     refine Stk.sq ?_
     refine Stk.sq ?_
     refine Stk.rg ?_
     refine Stk.run 2 (fun t H n => t 1 = .own b1 0 ∧ t 10 = .sc (.int .i64 a0.Op) ∧ t 31 = .sc (.bool (a0.Op == 7)) ∧ H b1 = some (.cells (c44 a0) 44) ∧ b1 < n) (fun J hJ => ?_) ?_
     ·simp [-splice, f1, f10, f21, b_b1]
      exact hJ _ _ _ ⟨by simp [f1], by simp [f10], by simp [-splice, f1, f10, f21, b_b1], b_b1, l_b1⟩
     clear f1 f10 f21 b_b1 l_b1
     rintro t H n ⟨f1, f10, f31, b_b1, l_b1⟩
     refine Stk.on ?_
     obtain ⟨K3, hK3, h⟩ := jnd h
     refine Stk.jn (fun t H n => ∃ v15 : Bool, K3 v15 = some r ∧ t 1 = .own b1 0 ∧ t 10 = .sc (.int .i64 a0.Op) ∧ t 31 = .sc (.bool v15) ∧ H b1 = some (.cells (c44 a0) 44) ∧ b1 < n) trivial (fun J3 hJ3 => ?_) ?_
     ·skip
      refine Stk.cond (a0.Op == 7) (by exact f31) (fun hb16 => ?_) (fun hb16 => ?_)
      ·have h := cT hb16 h
       refine Stk.sk ?_
       exact Stk.ln 0 (by decide) (hJ3 _ _ _ ⟨(a0.Op == 7), h, f1, f10, f31, b_b1, l_b1⟩)
      ·have h := cF hb16 h
       refine Stk.sq ?_
       refine Stk.rg ?_
       refine Stk.run 2 (fun t H n => t 1 = .own b1 0 ∧ t 10 = .sc (.int .i64 a0.Op) ∧ t 31 = .sc (.bool (a0.Op == 10)) ∧ H b1 = some (.cells (c44 a0) 44) ∧ b1 < n) (fun J hJ => ?_) ?_
       ·simp [-splice, f1, f10, f31, b_b1]
        exact hJ _ _ _ ⟨by simp [f1], by simp [f10], by simp [-splice, f1, f10, f31, b_b1], b_b1, l_b1⟩
       clear f1 f10 f31 b_b1 l_b1
       rintro t H n ⟨f1, f10, f31, b_b1, l_b1⟩
       refine Stk.on ?_
       refine Stk.cond (a0.Op == 10) (by exact f31) (fun hb17 => ?_) (fun hb17 => ?_)
       ·have h := cT hb17 h
        refine Stk.sk ?_
        exact Stk.ln 0 (by decide) (hJ3 _ _ _ ⟨(a0.Op == 10), h, f1, f10, f31, b_b1, l_b1⟩)
       ·have h := cF hb17 h
        refine Stk.rg ?_
        refine Stk.run 2 (fun t H n => t 1 = .own b1 0 ∧ t 10 = .sc (.int .i64 a0.Op) ∧ t 31 = .sc (.bool (a0.Op == 14)) ∧ H b1 = some (.cells (c44 a0) 44) ∧ b1 < n) (fun J hJ => ?_) ?_
        ·simp [-splice, f1, f10, f31, b_b1]
         exact hJ _ _ _ ⟨by simp [f1], by simp [f10], by simp [-splice, f1, f10, f31, b_b1], b_b1, l_b1⟩
        clear f1 f10 f31 b_b1 l_b1
        rintro t H n ⟨f1, f10, f31, b_b1, l_b1⟩
        refine Stk.on ?_
        exact Stk.ln 0 (by decide) (hJ3 _ _ _ ⟨(a0.Op == 14), h, f1, f10, f31, b_b1, l_b1⟩)
     clear h f1 f10 f31 b_b1 l_b1
     rintro t H n ⟨v15, h, f1, f10, f31, b_b1, l_b1⟩
     subst hK3
     refine Stk.cond v15 (by exact f31) (fun hb18 => ?_) (fun hb18 => ?_)
     ·have h := cT hb18 h
      refine Stk.sq ?_
      refine Stk.rg ?_
      refine Stk.run 2 (fun t H n => t 2 = .sc (.int .i64 1) ∧ t 3 = .sc (.int .i64 0)) (fun J hJ => ?_) ?_
      ·simp [-splice, f1, f10, f31, b_b1]
       exact hJ _ _ _ ⟨by simp [-splice, f1, f10, f31, b_b1], by simp [-splice, f1, f10, f31, b_b1]⟩
      clear f1 f10 f31 b_b1 l_b1
      rintro t H n ⟨f2, f3⟩
      refine Stk.on ?_
      refine Stk.rt ?_
      have hq := Option.some.inj h; subst hq
      exact (hr _ _ _ (.tup [.sc (.int .i64 1), .sc (.int .i64 0)]) ([]) (by simp [f2, f3]) (.inr (.inr (.tup (.cons (.free (rfl)) (.cons (.free (rfl)) (.nil))))))).1
     ·have h := cF hb18 h
      refine Stk.sq ?_
      refine Stk.rg ?_
      refine Stk.run 2 (fun t H n => t 1 = .own b1 0 ∧ t 35 = .sc (.bool (a0.Op == 8)) ∧ H b1 = some (.cells (c44 a0) 44) ∧ b1 < n) (fun J hJ => ?_) ?_
      ·simp [-splice, f1, f10, f31, b_b1]
       exact hJ _ _ _ ⟨by simp [f1], by simp [-splice, f1, f10, f31, b_b1], b_b1, l_b1⟩
      clear f1 f10 f31 b_b1 l_b1
      rintro t H n ⟨f1, f35, b_b1, l_b1⟩
      refine Stk.on ?_
      refine Stk.cond (a0.Op == 8) (by exact f35) (fun hb19 => ?_) (fun hb19 => ?_)
      ·have h := cT hb19 h
       refine Stk.sq ?_
       refine Stk.rg ?_
       refine Stk.run 5 (fun t H n => t 2 = .sc (.int .i64 (IntKind.i64.wrap (a0.A + 1))) ∧ t 3 = .sc (.int .i64 1)) (fun J hJ => ?_) ?_
       ·simp [-splice, f1, f35, b_b1, ld_44_1_3]
        exact hJ _ _ _ ⟨by simp [-splice, f1, f35, b_b1, ld_44_1_3], by simp [-splice, f1, f35, b_b1, ld_44_1_3]⟩
       clear f1 f35 b_b1 l_b1
       rintro t H n ⟨f2, f3⟩
       refine Stk.on ?_
       refine Stk.rt ?_
       have hq := Option.some.inj h; subst hq
       exact (hr _ _ _ (.tup [.sc (.int .i64 (IntKind.i64.wrap (a0.A + 1))), .sc (.int .i64 1)]) ([]) (by simp [f2, f3]) (.inr (.inr (.tup (.cons (.free (rfl)) (.cons (.free (rfl)) (.nil))))))).1
      ·have h := cF hb19 h
       refine Stk.sk ?_
       refine Stk.bn ?_
       refine Stk.sq ?_
       refine Stk.rg ?_
       refine Stk.run 2 (fun t H n => t 2 = .sc (.int .i64 0) ∧ t 3 = .sc (.int .i64 0)) (fun J hJ => ?_) ?_
       ·simp [-splice, f1, f35, b_b1]
        exact hJ _ _ _ ⟨by simp [-splice, f1, f35, b_b1], by simp [-splice, f1, f35, b_b1]⟩
       clear f1 f35 b_b1 l_b1
       rintro t H n ⟨f2, f3⟩
       refine Stk.on ?_
       refine Stk.rt ?_
       have hq := Option.some.inj h; subst hq
       exact (hr _ _ _ (.tup [.sc (.int .i64 0), .sc (.int .i64 0)]) ([]) (by simp [f2, f3]) (.inr (.inr (.tup (.cons (.free (rfl)) (.cons (.free (rfl)) (.nil))))))).1
theorem ok_R19_Goes (F : Nat) (a0 : api_Inst) (r : ((List Int) × Bool)) (h : R19_Goes F a0 = some r) : RunF Try.prog T.T 15 [.agg (c44 a0)] (.tup [.ssl (encs c3 r.1) r.1.length false, .sc (.bool r.2)]) := by
 rw [R19_Goes] at h
 refine RunF.z Try.func15 rfl rfl rfl rfl rfl (fun C hr => ?_)
 refine Stk.gen (fun t H n => t 0 = .agg (c44 a0)) (by simp) ?_
 rintro t H n f0
 refine Stk.sq ?_
 refine Stk.rg ?_
 refine Stk.om (mop_box T.t44 (cs := c44 a0) (by show partOk (t 0) = true; rw [f0]; rfl) (by show cellsOf (t 0) = _; rw [f0]; rfl)) (by simp [f0]) rfl (fun t' ht' => ?_)
 refine Stk.gen (fun t H n => ∃ b1, t 1 = .own b1 0 ∧ H b1 = some (.cells (c44 a0) 44) ∧ b1 < n) ⟨n, by simp [ht'], upd_same _ _ _, Nat.lt_succ_self _⟩ ?_
 clear f0 ht' t'
 rintro t H n ⟨b1, f1, b_b1, l_b1⟩
 refine Stk.run 1 (fun t H n => t 1 = .own b1 0 ∧ H b1 = some (.cells (c44 a0) 44) ∧ b1 < n) (fun J hJ => ?_) ?_
 ·simp [-splice, f1, b_b1]
  exact hJ _ _ _ ⟨by simp [f1], b_b1, l_b1⟩
 clear f1 b_b1 l_b1
 rintro t H n ⟨f1, b_b1, l_b1⟩
 refine Stk.run 1 (fun t H n => t 1 = .own b1 0 ∧ H b1 = some (.cells (c44 a0) 44) ∧ b1 < n) (fun J hJ => ?_) ?_
 ·simp [-splice, f1, b_b1]
  exact hJ _ _ _ ⟨by simp [f1], b_b1, l_b1⟩
 clear f1 b_b1 l_b1
 rintro t H n ⟨f1, b_b1, l_b1⟩
 refine Stk.on ?_
 refine Stk.sq ?_
 refine Stk.sq ?_
 refine Stk.rg ?_
 refine Stk.run 1 (fun t H n => t 1 = .own b1 0 ∧ t 4 = .agg (c44 a0) ∧ H b1 = some (.cells (c44 a0) 44) ∧ b1 < n) (fun J hJ => ?_) ?_
 ·simp [-splice, f1, b_b1, ld_44_0_44]
  exact hJ _ _ _ ⟨by simp [f1], by simp [-splice, f1, b_b1, ld_44_0_44], b_b1, l_b1⟩
 clear f1 b_b1 l_b1
 rintro t H n ⟨f1, f4, b_b1, l_b1⟩
 obtain ⟨x2, hx2, h⟩ := bnd h
 refine Stk.cv (g := 21) (args := [.agg (c44 a0)]) (args' := [.agg (c44 a0)]) (v := .sc (.bool x2)) [] (ok_R19_Fit F _ _ hx2) (by simp [f1, f4]) rfl rfl (by simp [f1, f4]) (.cons (.free (fr44 _)) (.nil)) (.inl ⟨rfl, rfl⟩) (fun t' ht' => ?_)
 refine Stk.gen (fun t H n => t 1 = .own b1 0 ∧ t 5 = .sc (.bool x2) ∧ H b1 = some (.cells (c44 a0) 44) ∧ b1 < n) ⟨by simp [ht', f1], by simp [ht'], b_b1, l_b1⟩ ?_
 clear f1 f4 b_b1 l_b1 ht' t'
 rintro t H n ⟨f1, f5, b_b1, l_b1⟩
 refine Stk.run 1 (fun t H n => t 1 = .own b1 0 ∧ t 6 = .sc (.bool (!x2)) ∧ H b1 = some (.cells (c44 a0) 44) ∧ b1 < n) (fun J hJ => ?_) ?_
 ·simp [-splice, f1, f5, b_b1]
  exact hJ _ _ _ ⟨by simp [f1], by simp [-splice, f1, f5, b_b1], b_b1, l_b1⟩
 clear f1 f5 b_b1 l_b1
 rintro t H n ⟨f1, f6, b_b1, l_b1⟩
 refine Stk.on ?_
 refine Stk.cond (!x2) (by exact f6) (fun hb3 => ?_) (fun hb3 => ?_)
 ·have h := cT hb3 h
  refine Stk.sq ?_
  refine Stk.rg ?_
  refine Stk.run 1 (fun t H n => t 2 = .sc (.slice none 0 0)) (fun J hJ => ?_) ?_
  ·simp [-splice, f1, f6, b_b1]
   exact hJ _ _ _ (by simp [-splice, f1, f6, b_b1])
  clear f1 f6 b_b1 l_b1
  rintro t H n f2
  refine Stk.wk trivial 2 (.ssl (encs c3 ([] : (List Int))) ([] : (List Int)).length false) (by rw [f2]; exact .inr (.inr .nilS)) (fun t' ht' => ?_)
  refine Stk.gen (fun t H n => t 2 = .ssl (encs c3 ([] : (List Int))) ([] : (List Int)).length false) (by simp [ht', f2]) ?_
  clear f2 ht' t'
  rintro t H n f2
  refine Stk.run 1 (fun t H n => t 2 = .ssl (encs c3 ([] : (List Int))) ([] : (List Int)).length false ∧ t 3 = .sc (.bool false)) (fun J hJ => ?_) ?_
  ·simp [-splice, f2]
   exact hJ _ _ _ ⟨by simp [f2], by simp [-splice, f2]⟩
  clear f2
  rintro t H n ⟨f2, f3⟩
  refine Stk.on ?_
  refine Stk.rt ?_
  have hq := Option.some.inj h; subst hq
  exact (hr _ _ _ (.tup [.ssl (encs c3 ([] : (List Int))) ([] : (List Int)).length false, .sc (.bool false)]) ([]) (by simp [f2, f3]) (.inr (.inr (.tup (.cons (.free (freeL_encs fr3 _)) (.cons (.free (rfl)) (.nil))))))).1
 ·have h := cF hb3 h
  refine Stk.sk ?_
  refine Stk.sq ?_
  refine Stk.sq ?_
  refine Stk.rg ?_
  refine Stk.run 2 (fun t H n => t 1 = .own b1 0 ∧ t 8 = .sc (.int .i64 a0.Op) ∧ H b1 = some (.cells (c44 a0) 44) ∧ b1 < n) (fun J hJ => ?_) ?_
  ·simp [-splice, f1, f6, b_b1, ld_44_0_3]
   exact hJ _ _ _ ⟨by simp [f1], by simp [-splice, f1, f6, b_b1, ld_44_0_3], b_b1, l_b1⟩
  clear f1 f6 b_b1 l_b1
  rintro t H n ⟨f1, f8, b_b1, l_b1⟩
  refine Stk.on ?_
  refine Stk.bk ?_
  refine Stk.sq ?_
  refine Stk.sq ?_
  refine Stk.rg ?_
  refine Stk.run 2 (fun t H n => t 1 = .own b1 0 ∧ t 8 = .sc (.int .i64 a0.Op) ∧ t 9 = .sc (.bool (a0.Op == 7)) ∧ H b1 = some (.cells (c44 a0) 44) ∧ b1 < n) (fun J hJ => ?_) ?_
  ·simp [-splice, f1, f8, b_b1]
   exact hJ _ _ _ ⟨by simp [f1], by simp [f8], by simp [-splice, f1, f8, b_b1], b_b1, l_b1⟩
  clear f1 f8 b_b1 l_b1
  rintro t H n ⟨f1, f8, f9, b_b1, l_b1⟩
  refine Stk.on ?_
  obtain ⟨K1, hK1, h⟩ := jnd h
  refine Stk.jn (fun t H n => ∃ v4 : Bool, K1 v4 = some r ∧ t 1 = .own b1 0 ∧ t 8 = .sc (.int .i64 a0.Op) ∧ t 9 = .sc (.bool v4) ∧ H b1 = some (.cells (c44 a0) 44) ∧ b1 < n) trivial (fun J1 hJ1 => ?_) ?_
  ·skip
   refine Stk.cond (a0.Op == 7) (by exact f9) (fun hb5 => ?_) (fun hb5 => ?_)
   ·have h := cT hb5 h
    refine Stk.sk ?_
    exact Stk.ln 0 (by decide) (hJ1 _ _ _ ⟨(a0.Op == 7), h, f1, f8, f9, b_b1, l_b1⟩)
   ·have h := cF hb5 h
    refine Stk.sq ?_
    refine Stk.rg ?_
    refine Stk.run 2 (fun t H n => t 1 = .own b1 0 ∧ t 8 = .sc (.int .i64 a0.Op) ∧ t 9 = .sc (.bool (a0.Op == 15)) ∧ H b1 = some (.cells (c44 a0) 44) ∧ b1 < n) (fun J hJ => ?_) ?_
    ·simp [-splice, f1, f8, f9, b_b1]
     exact hJ _ _ _ ⟨by simp [f1], by simp [f8], by simp [-splice, f1, f8, f9, b_b1], b_b1, l_b1⟩
    clear f1 f8 f9 b_b1 l_b1
    rintro t H n ⟨f1, f8, f9, b_b1, l_b1⟩
    refine Stk.on ?_
    refine Stk.cond (a0.Op == 15) (by exact f9) (fun hb6 => ?_) (fun hb6 => ?_)
    ·have h := cT hb6 h
     refine Stk.sk ?_
     exact Stk.ln 0 (by decide) (hJ1 _ _ _ ⟨(a0.Op == 15), h, f1, f8, f9, b_b1, l_b1⟩)
    ·have h := cF hb6 h
     refine Stk.rg ?_
     refine Stk.run 2 (fun t H n => t 1 = .own b1 0 ∧ t 8 = .sc (.int .i64 a0.Op) ∧ t 9 = .sc (.bool (a0.Op == 11)) ∧ H b1 = some (.cells (c44 a0) 44) ∧ b1 < n) (fun J hJ => ?_) ?_
     ·simp [-splice, f1, f8, f9, b_b1]
      exact hJ _ _ _ ⟨by simp [f1], by simp [f8], by simp [-splice, f1, f8, f9, b_b1], b_b1, l_b1⟩
     clear f1 f8 f9 b_b1 l_b1
     rintro t H n ⟨f1, f8, f9, b_b1, l_b1⟩
     refine Stk.on ?_
     exact Stk.ln 0 (by decide) (hJ1 _ _ _ ⟨(a0.Op == 11), h, f1, f8, f9, b_b1, l_b1⟩)
  clear h f1 f8 f9 b_b1 l_b1
  rintro t H n ⟨v4, h, f1, f8, f9, b_b1, l_b1⟩
  subst hK1
  refine Stk.cond v4 (by exact f9) (fun hb7 => ?_) (fun hb7 => ?_)
  ·have h := cT hb7 h
   refine Stk.sq ?_
   refine Stk.rg ?_
   refine Stk.run 1 (fun t H n => t 2 = .sc (.slice none 0 0)) (fun J hJ => ?_) ?_
   ·simp [-splice, f1, f8, f9, b_b1]
    exact hJ _ _ _ (by simp [-splice, f1, f8, f9, b_b1])
   clear f1 f8 f9 b_b1 l_b1
   rintro t H n f2
   refine Stk.wk trivial 2 (.ssl (encs c3 ([] : (List Int))) ([] : (List Int)).length false) (by rw [f2]; exact .inr (.inr .nilS)) (fun t' ht' => ?_)
   refine Stk.gen (fun t H n => t 2 = .ssl (encs c3 ([] : (List Int))) ([] : (List Int)).length false) (by simp [ht', f2]) ?_
   clear f2 ht' t'
   rintro t H n f2
   refine Stk.run 1 (fun t H n => t 2 = .ssl (encs c3 ([] : (List Int))) ([] : (List Int)).length false ∧ t 3 = .sc (.bool false)) (fun J hJ => ?_) ?_
   ·simp [-splice, f2]
    exact hJ _ _ _ ⟨by simp [f2], by simp [-splice, f2]⟩
   clear f2
   rintro t H n ⟨f2, f3⟩
   refine Stk.on ?_
   refine Stk.rt ?_
   have hq := Option.some.inj h; subst hq
   exact (hr _ _ _ (.tup [.ssl (encs c3 ([] : (List Int))) ([] : (List Int)).length false, .sc (.bool false)]) ([]) (by simp [f2, f3]) (.inr (.inr (.tup (.cons (.free (freeL_encs fr3 _)) (.cons (.free (rfl)) (.nil))))))).1
  ·have h := cF hb7 h
   refine Stk.sq ?_
   refine Stk.rg ?_
   refine Stk.run 2 (fun t H n => t 1 = .own b1 0 ∧ t 8 = .sc (.int .i64 a0.Op) ∧ t 13 = .sc (.bool (a0.Op == 9)) ∧ H b1 = some (.cells (c44 a0) 44) ∧ b1 < n) (fun J hJ => ?_) ?_
   ·simp [-splice, f1, f8, f9, b_b1]
    exact hJ _ _ _ ⟨by simp [f1], by simp [f8], by simp [-splice, f1, f8, f9, b_b1], b_b1, l_b1⟩
   clear f1 f8 f9 b_b1 l_b1
   rintro t H n ⟨f1, f8, f13, b_b1, l_b1⟩
   refine Stk.on ?_
   refine Stk.cond (a0.Op == 9) (by exact f13) (fun hb8 => ?_) (fun hb8 => ?_)
   ·have h := cT hb8 h
    refine Stk.sq ?_
    refine Stk.rg ?_
    refine Stk.run 2 (fun t H n => t 16 = .sc (.int .i64 a0.A)) (fun J hJ => ?_) ?_
    ·simp [-splice, f1, f8, f13, b_b1, ld_44_1_3]
     exact hJ _ _ _ (by simp [-splice, f1, f8, f13, b_b1, ld_44_1_3])
    clear f1 f8 f13 b_b1 l_b1
    rintro t H n f16
    refine Stk.om (mop_buildN (c := c3) (z := 1) T.t47 rfl T.t3 rfl (by decide) rfl (by decide) [a0.A] rfl (.cons f16 rfl rfl rfl rfl (by simp [length_encs]) (splice_next (c := c3) [] _ a0.A rfl (by simp)) (.nil))) (by simp [f16]) rfl (fun t' ht' => ?_)
    refine Stk.gen (fun t H n => ∃ b9, t 17 = .osl b9 0 ([a0.A] : List Int).length (some ([a0.A] : List Int).length) ∧ H b9 = some (.cells (encs c3 ([a0.A] : List Int)) 3) ∧ b9 < n) ⟨n, by simp [ht'], upd_same _ _ _, Nat.lt_succ_self _⟩ ?_
    clear f16 ht' t'
    rintro t H n ⟨b9, f17, b_b9, l_b9⟩
    refine Stk.run 2 (fun t H n => t 2 = .osl b9 0 ([a0.A] : List Int).length (some ([a0.A] : List Int).length) ∧ t 3 = .sc (.bool false) ∧ H b9 = some (.cells (encs c3 ([a0.A] : List Int)) 3) ∧ b9 < n) (fun J hJ => ?_) ?_
    ·simp [-splice, f17, b_b9]
     exact hJ _ _ _ ⟨by simp [-splice, f17, b_b9], by simp [-splice, f17, b_b9], b_b9, l_b9⟩
    clear f17 b_b9 l_b9
    rintro t H n ⟨f2, f3, b_b9, l_b9⟩
    refine Stk.on ?_
    refine Stk.rt ?_
    have hq := Option.some.inj h; subst hq
    exact (hr _ _ _ (.tup [.osl b9 0 ([a0.A] : List Int).length (some ([a0.A] : List Int).length), .sc (.bool false)]) ([b9]) (by simp [f2, f3, b_b9]) (.inr (.inr (.tup (.cons (view_row fr3 b_b9 (by simp) _) (.cons (.free (rfl)) (.nil))))))).1
   ·have h := cF hb8 h
    refine Stk.sq ?_
    refine Stk.rg ?_
    refine Stk.run 2 (fun t H n => t 1 = .own b1 0 ∧ t 8 = .sc (.int .i64 a0.Op) ∧ t 18 = .sc (.bool (a0.Op == 10)) ∧ H b1 = some (.cells (c44 a0) 44) ∧ b1 < n) (fun J hJ => ?_) ?_
    ·simp [-splice, f1, f8, f13, b_b1]
     exact hJ _ _ _ ⟨by simp [f1], by simp [f8], by simp [-splice, f1, f8, f13, b_b1], b_b1, l_b1⟩
    clear f1 f8 f13 b_b1 l_b1
    rintro t H n ⟨f1, f8, f18, b_b1, l_b1⟩
    refine Stk.on ?_
    refine Stk.cond (a0.Op == 10) (by exact f18) (fun hb10 => ?_) (fun hb10 => ?_)
    ·have h := cT hb10 h
     refine Stk.sq ?_
     refine Stk.rg ?_
     refine Stk.run 2 (fun t H n => t 21 = .sc (.int .i64 a0.A)) (fun J hJ => ?_) ?_
     ·simp [-splice, f1, f8, f18, b_b1, ld_44_1_3]
      exact hJ _ _ _ (by simp [-splice, f1, f8, f18, b_b1, ld_44_1_3])
     clear f1 f8 f18 b_b1 l_b1
     rintro t H n f21
     refine Stk.om (mop_buildN (c := c3) (z := 1) T.t47 rfl T.t3 rfl (by decide) rfl (by decide) [a0.A] rfl (.cons f21 rfl rfl rfl rfl (by simp [length_encs]) (splice_next (c := c3) [] _ a0.A rfl (by simp)) (.nil))) (by simp [f21]) rfl (fun t' ht' => ?_)
     refine Stk.gen (fun t H n => ∃ b11, t 22 = .osl b11 0 ([a0.A] : List Int).length (some ([a0.A] : List Int).length) ∧ H b11 = some (.cells (encs c3 ([a0.A] : List Int)) 3) ∧ b11 < n) ⟨n, by simp [ht'], upd_same _ _ _, Nat.lt_succ_self _⟩ ?_
     clear f21 ht' t'
     rintro t H n ⟨b11, f22, b_b11, l_b11⟩
     refine Stk.run 2 (fun t H n => t 2 = .osl b11 0 ([a0.A] : List Int).length (some ([a0.A] : List Int).length) ∧ t 3 = .sc (.bool true) ∧ H b11 = some (.cells (encs c3 ([a0.A] : List Int)) 3) ∧ b11 < n) (fun J hJ => ?_) ?_
     ·simp [-splice, f22, b_b11]
      exact hJ _ _ _ ⟨by simp [-splice, f22, b_b11], by simp [-splice, f22, b_b11], b_b11, l_b11⟩
     clear f22 b_b11 l_b11
     rintro t H n ⟨f2, f3, b_b11, l_b11⟩
     refine Stk.on ?_
     refine Stk.rt ?_
     have hq := Option.some.inj h; subst hq
     exact (hr _ _ _ (.tup [.osl b11 0 ([a0.A] : List Int).length (some ([a0.A] : List Int).length), .sc (.bool true)]) ([b11]) (by simp [f2, f3, b_b11]) (.inr (.inr (.tup (.cons (view_row fr3 b_b11 (by simp) _) (.cons (.free (rfl)) (.nil))))))).1
    ·have h := cF hb10 h
     refine Stk.sq ?_
     refine Stk.rg ?_
     refine Stk.run 2 (fun t H n => t 1 = .own b1 0 ∧ t 8 = .sc (.int .i64 a0.Op) ∧ t 23 = .sc (.bool (a0.Op == 12)) ∧ H b1 = some (.cells (c44 a0) 44) ∧ b1 < n) (fun J hJ => ?_) ?_
     ·simp [-splice, f1, f8, f18, b_b1]
      exact hJ _ _ _ ⟨by simp [f1], by simp [f8], by simp [-splice, f1, f8, f18, b_b1], b_b1, l_b1⟩
     clear f1 f8 f18 b_b1 l_b1
     rintro t H n ⟨f1, f8, f23, b_b1, l_b1⟩
     refine Stk.on ?_
     refine Stk.cond (a0.Op == 12) (by exact f23) (fun hb12 => ?_) (fun hb12 => ?_)
     ·have h := cT hb12 h
      refine Stk.sq ?_
      refine Stk.rg ?_
      refine Stk.run 2 (fun t H n => t 26 = .sc (.int .i64 a0.C)) (fun J hJ => ?_) ?_
      ·simp [-splice, f1, f8, f23, b_b1, ld_44_3_3]
       exact hJ _ _ _ (by simp [-splice, f1, f8, f23, b_b1, ld_44_3_3])
      clear f1 f8 f23 b_b1 l_b1
      rintro t H n f26
      refine Stk.om (mop_buildN (c := c3) (z := 1) T.t47 rfl T.t3 rfl (by decide) rfl (by decide) [a0.C] rfl (.cons f26 rfl rfl rfl rfl (by simp [length_encs]) (splice_next (c := c3) [] _ a0.C rfl (by simp)) (.nil))) (by simp [f26]) rfl (fun t' ht' => ?_)
      refine Stk.gen (fun t H n => ∃ b13, t 27 = .osl b13 0 ([a0.C] : List Int).length (some ([a0.C] : List Int).length) ∧ H b13 = some (.cells (encs c3 ([a0.C] : List Int)) 3) ∧ b13 < n) ⟨n, by simp [ht'], upd_same _ _ _, Nat.lt_succ_self _⟩ ?_
      clear f26 ht' t'
      rintro t H n ⟨b13, f27, b_b13, l_b13⟩
      refine Stk.run 2 (fun t H n => t 2 = .osl b13 0 ([a0.C] : List Int).length (some ([a0.C] : List Int).length) ∧ t 3 = .sc (.bool true) ∧ H b13 = some (.cells (encs c3 ([a0.C] : List Int)) 3) ∧ b13 < n) (fun J hJ => ?_) ?_
      ·simp [-splice, f27, b_b13]
       exact hJ _ _ _ ⟨by simp [-splice, f27, b_b13], by simp [-splice, f27, b_b13], b_b13, l_b13⟩
      clear f27 b_b13 l_b13
      rintro t H n ⟨f2, f3, b_b13, l_b13⟩
      refine Stk.on ?_
      refine Stk.rt ?_
      have hq := Option.some.inj h; subst hq
      exact (hr _ _ _ (.tup [.osl b13 0 ([a0.C] : List Int).length (some ([a0.C] : List Int).length), .sc (.bool true)]) ([b13]) (by simp [f2, f3, b_b13]) (.inr (.inr (.tup (.cons (view_row fr3 b_b13 (by simp) _) (.cons (.free (rfl)) (.nil))))))).1
     ·have h := cF hb12 h
      refine Stk.sq ?_
      refine Stk.rg ?_
      refine Stk.run 2 (fun t H n => t 1 = .own b1 0 ∧ t 28 = .sc (.bool (a0.Op == 13)) ∧ H b1 = some (.cells (c44 a0) 44) ∧ b1 < n) (fun J hJ => ?_) ?_
      ·simp [-splice, f1, f8, f23, b_b1]
       exact hJ _ _ _ ⟨by simp [f1], by simp [-splice, f1, f8, f23, b_b1], b_b1, l_b1⟩
      clear f1 f8 f23 b_b1 l_b1
      rintro t H n ⟨f1, f28, b_b1, l_b1⟩
      refine Stk.on ?_
      refine Stk.cond (a0.Op == 13) (by exact f28) (fun hb14 => ?_) (fun hb14 => ?_)
      ·have h := cT hb14 h
       refine Stk.sq ?_
       refine Stk.rg ?_
       refine Stk.run 2 (fun t H n => t 31 = .sc (.int .i64 a0.B)) (fun J hJ => ?_) ?_
       ·simp [-splice, f1, f28, b_b1, ld_44_2_3]
        exact hJ _ _ _ (by simp [-splice, f1, f28, b_b1, ld_44_2_3])
       clear f1 f28 b_b1 l_b1
       rintro t H n f31
       refine Stk.om (mop_buildN (c := c3) (z := 1) T.t47 rfl T.t3 rfl (by decide) rfl (by decide) [a0.B] rfl (.cons f31 rfl rfl rfl rfl (by simp [length_encs]) (splice_next (c := c3) [] _ a0.B rfl (by simp)) (.nil))) (by simp [f31]) rfl (fun t' ht' => ?_)
       refine Stk.gen (fun t H n => ∃ b15, t 32 = .osl b15 0 ([a0.B] : List Int).length (some ([a0.B] : List Int).length) ∧ H b15 = some (.cells (encs c3 ([a0.B] : List Int)) 3) ∧ b15 < n) ⟨n, by simp [ht'], upd_same _ _ _, Nat.lt_succ_self _⟩ ?_
       clear f31 ht' t'
       rintro t H n ⟨b15, f32, b_b15, l_b15⟩
       refine Stk.run 2 (fun t H n => t 2 = .osl b15 0 ([a0.B] : List Int).length (some ([a0.B] : List Int).length) ∧ t 3 = .sc (.bool true) ∧ H b15 = some (.cells (encs c3 ([a0.B] : List Int)) 3) ∧ b15 < n) (fun J hJ => ?_) ?_
       ·simp [-splice, f32, b_b15]
        exact hJ _ _ _ ⟨by simp [-splice, f32, b_b15], by simp [-splice, f32, b_b15], b_b15, l_b15⟩
       clear f32 b_b15 l_b15
       rintro t H n ⟨f2, f3, b_b15, l_b15⟩
       refine Stk.on ?_
       refine Stk.rt ?_
       have hq := Option.some.inj h; subst hq
       exact (hr _ _ _ (.tup [.osl b15 0 ([a0.B] : List Int).length (some ([a0.B] : List Int).length), .sc (.bool true)]) ([b15]) (by simp [f2, f3, b_b15]) (.inr (.inr (.tup (.cons (view_row fr3 b_b15 (by simp) _) (.cons (.free (rfl)) (.nil))))))).1
      ·have h := cF hb14 h
       refine Stk.sk ?_
       refine Stk.bn ?_
       refine Stk.sq ?_
       refine Stk.rg ?_
       refine Stk.run 1 (fun t H n => t 2 = .sc (.slice none 0 0)) (fun J hJ => ?_) ?_
       ·simp [-splice, f1, f28, b_b1]
        exact hJ _ _ _ (by simp [-splice, f1, f28, b_b1])
       clear f1 f28 b_b1 l_b1
       rintro t H n f2
       refine Stk.wk trivial 2 (.ssl (encs c3 ([] : (List Int))) ([] : (List Int)).length false) (by rw [f2]; exact .inr (.inr .nilS)) (fun t' ht' => ?_)
       refine Stk.gen (fun t H n => t 2 = .ssl (encs c3 ([] : (List Int))) ([] : (List Int)).length false) (by simp [ht', f2]) ?_
       clear f2 ht' t'
       rintro t H n f2
       refine Stk.run 1 (fun t H n => t 2 = .ssl (encs c3 ([] : (List Int))) ([] : (List Int)).length false ∧ t 3 = .sc (.bool true)) (fun J hJ => ?_) ?_
       ·simp [-splice, f2]
        exact hJ _ _ _ ⟨by simp [f2], by simp [-splice, f2]⟩
       clear f2
       rintro t H n ⟨f2, f3⟩
       refine Stk.on ?_
       refine Stk.rt ?_
       have hq := Option.some.inj h; subst hq
       exact (hr _ _ _ (.tup [.ssl (encs c3 ([] : (List Int))) ([] : (List Int)).length false, .sc (.bool true)]) ([]) (by simp [f2, f3]) (.inr (.inr (.tup (.cons (.free (freeL_encs fr3 _)) (.cons (.free (rfl)) (.nil))))))).1
theorem ok_R20_Light (F : Nat) (a0 : api_Code) (a1 : Int) (r : Bool) (h : R20_Light F a0 a1 = some r) : RunF Try.prog T.T 6 [.agg (c26 a0), .sc (.int .i64 a1)] (.sc (.bool r)) := by
 rw [R20_Light] at h
 refine RunF.z Try.func6 rfl rfl rfl rfl rfl (fun C hr => ?_)
 refine Stk.gen (fun t H n => t 0 = .agg (c26 a0) ∧ t 1 = .sc (.int .i64 a1)) ⟨by simp, by simp⟩ ?_
 rintro t H n ⟨f0, f1⟩
 refine Stk.sq ?_
 refine Stk.rg ?_
 refine Stk.om (mop_box T.t26 (cs := c26 a0) (by show partOk (t 0) = true; rw [f0]; rfl) (by show cellsOf (t 0) = _; rw [f0]; rfl)) (by simp [f0, f1]) rfl (fun t' ht' => ?_)
 refine Stk.gen (fun t H n => ∃ b1, t 1 = .sc (.int .i64 a1) ∧ t 2 = .own b1 0 ∧ H b1 = some (.cells (c26 a0) 26) ∧ b1 < n) ⟨n, by simp [ht', f1], by simp [ht'], upd_same _ _ _, Nat.lt_succ_self _⟩ ?_
 clear f0 f1 ht' t'
 rintro t H n ⟨b1, f1, f2, b_b1, l_b1⟩
 refine Stk.run 1 (fun t H n => t 1 = .sc (.int .i64 a1) ∧ t 2 = .own b1 0 ∧ H b1 = some (.cells (c26 a0) 26) ∧ b1 < n) (fun J hJ => ?_) ?_
 ·simp [-splice, f1, f2, b_b1]
  exact hJ _ _ _ ⟨by simp [f1], by simp [f2], b_b1, l_b1⟩
 clear f1 f2 b_b1 l_b1
 rintro t H n ⟨f1, f2, b_b1, l_b1⟩
 refine Stk.on ?_
 refine Stk.sq ?_
 refine Stk.rg ?_
 refine Stk.run 1 (fun t H n => t 1 = .sc (.int .i64 a1) ∧ t 2 = .own b1 0 ∧ t 5 = .sc (.int .i64 0) ∧ H b1 = some (.cells (c26 a0) 26) ∧ b1 < n) (fun J hJ => ?_) ?_
 ·simp [-splice, f1, f2, b_b1]
  exact hJ _ _ _ ⟨by simp [f1], by simp [f2], by simp [-splice, f1, f2, b_b1], b_b1, l_b1⟩
 clear f1 f2 b_b1 l_b1
 rintro t H n ⟨f1, f2, f5, b_b1, l_b1⟩
 refine Stk.on ?_
 refine Stk.sq ?_
 refine Stk.sq ?_
 refine Stk.rg ?_
 refine Stk.run 1 (fun t H n => t 1 = .sc (.int .i64 a1) ∧ t 2 = .own b1 0 ∧ t 5 = .sc (.int .i64 0) ∧ t 6 = .sc (.int .i64 0) ∧ H b1 = some (.cells (c26 a0) 26) ∧ b1 < n) (fun J hJ => ?_) ?_
 ·simp [-splice, f1, f2, f5, b_b1]
  exact hJ _ _ _ ⟨by simp [f1], by simp [f2], by simp [f5], by simp [-splice, f1, f2, f5, b_b1], b_b1, l_b1⟩
 clear f1 f2 f5 b_b1 l_b1
 rintro t H n ⟨f1, f2, f5, f6, b_b1, l_b1⟩
 refine Stk.on ?_
 obtain ⟨K1, hK1, h⟩ := jnd h
 refine Stk.jn (fun t H n => ∃ v2 : Int, K1 v2 = some r ∧ t 1 = .sc (.int .i64 a1) ∧ t 2 = .own b1 0 ∧ t 5 = .sc (.int .i64 v2) ∧ H b1 = some (.cells (c26 a0) 26) ∧ b1 < n) trivial (fun J1 hJ1 => ?_) ?_
 ·skip
  refine Stk.bk ?_
  refine Stk.lo (fun μ t H n => ∃ v3 : Int, ∃ v4 : Int, R20_Light_L0 F a0 a1 K1 μ v3 v4 = some r ∧ t 1 = .sc (.int .i64 a1) ∧ t 2 = .own b1 0 ∧ t 5 = .sc (.int .i64 v3) ∧ t 6 = .sc (.int .i64 v4) ∧ H b1 = some (.cells (c26 a0) 26) ∧ b1 < n) F ⟨0, 0, h, f1, f2, f5, f6, b_b1, l_b1⟩ ?_
  clear h f1 f2 f5 f6 b_b1 l_b1
  rintro J2 hJ2 μ t H n ⟨v3, v4, h, f1, f2, f5, f6, b_b1, l_b1⟩
  cases μ with
  | zero => exact absurd h (by simp [R20_Light_L0])
  | succ μ =>
  rw [R20_Light_L0] at h
  refine Stk.sq ?_
  refine Stk.sq ?_
  refine Stk.rg ?_
  refine Stk.run 6 (fun t H n => t 1 = .sc (.int .i64 a1) ∧ t 2 = .own b1 0 ∧ t 5 = .sc (.int .i64 v3) ∧ t 6 = .sc (.int .i64 v4) ∧ t 14 = .sc (.bool (decide (v4 < (a0.Funs.length : Int)))) ∧ H b1 = some (.cells (c26 a0) 26) ∧ b1 < n) (fun J hJ => ?_) ?_
  ·simp [-splice, f1, f2, f5, f6, b_b1, ld_26_0_22]
   exact hJ _ _ _ ⟨by simp [f1], by simp [f2], by simp [f5], by simp [f6], by simp [-splice, f1, f2, f5, f6, b_b1, ld_26_0_22], b_b1, l_b1⟩
  clear f1 f2 f5 f6 b_b1 l_b1
  rintro t H n ⟨f1, f2, f5, f6, f14, b_b1, l_b1⟩
  refine Stk.jo 4 (fun t H n => t 1 = .sc (.int .i64 a1) ∧ t 2 = .own b1 0 ∧ t 5 = .sc (.int .i64 v3) ∧ t 6 = .sc (.int .i64 v4) ∧ t 18 = .sc (.bool ((decide (v4 < (a0.Funs.length : Int))) && (decide (v3 ≤ a1)))) ∧ H b1 = some (.cells (c26 a0) 26) ∧ b1 < n) (fun J3 hJ3 => ?_) ?_
  ·rcases Bool.eq_false_or_eq_true (decide (v4 < (a0.Funs.length : Int))) with hb3 | hb3
   ·rw [hb3] at f14
    refine Stk.run 4 (fun t H n => t 1 = .sc (.int .i64 a1) ∧ t 2 = .own b1 0 ∧ t 5 = .sc (.int .i64 v3) ∧ t 6 = .sc (.int .i64 v4) ∧ t 18 = .sc (.bool (decide (v3 ≤ a1))) ∧ H b1 = some (.cells (c26 a0) 26) ∧ b1 < n) (fun J hJ => ?_) ?_
    ·simp [-splice, f1, f2, f5, f6, f14, b_b1]
     exact hJ _ _ _ ⟨by simp [f1], by simp [f2], by simp [f5], by simp [f6], by simp [-splice, f1, f2, f5, f6, f14, b_b1], b_b1, l_b1⟩
    clear f1 f2 f5 f6 f14 b_b1 l_b1
    rintro t H n ⟨f1, f2, f5, f6, f18, b_b1, l_b1⟩
    refine Stk.on ?_
    exact Stk.ln 0 (by decide) (hJ3 _ _ _ ⟨f1, f2, f5, f6, f18.trans (congrArg (fun q => AV.sc (.bool q)) (by rw [hb3]; rfl)), b_b1, l_b1⟩)
   ·rw [hb3] at f14
    refine Stk.run 4 (fun t H n => t 1 = .sc (.int .i64 a1) ∧ t 2 = .own b1 0 ∧ t 5 = .sc (.int .i64 v3) ∧ t 6 = .sc (.int .i64 v4) ∧ t 18 = .sc (.bool false) ∧ H b1 = some (.cells (c26 a0) 26) ∧ b1 < n) (fun J hJ => ?_) ?_
    ·simp [-splice, f1, f2, f5, f6, f14, b_b1]
     exact hJ _ _ _ ⟨by simp [f1], by simp [f2], by simp [f5], by simp [f6], by simp [-splice, f1, f2, f5, f6, f14, b_b1], b_b1, l_b1⟩
    clear f1 f2 f5 f6 f14 b_b1 l_b1
    rintro t H n ⟨f1, f2, f5, f6, f18, b_b1, l_b1⟩
    refine Stk.on ?_
    exact Stk.ln 0 (by decide) (hJ3 _ _ _ ⟨f1, f2, f5, f6, f18.trans (congrArg (fun q => AV.sc (.bool q)) (by rw [hb3]; rfl)), b_b1, l_b1⟩)
  clear f1 f2 f5 f6 f14 b_b1 l_b1
  rintro t H n ⟨f1, f2, f5, f6, f18, b_b1, l_b1⟩
  refine Stk.on ?_
  refine Stk.cond ((decide (v4 < (a0.Funs.length : Int))) && (decide (v3 ≤ a1))) (by exact f18) (fun hb7 => ?_) (fun hb7 => ?_)
  ·have h := cT hb7 h
   refine Stk.sk ?_
   refine Stk.sq ?_
   refine Stk.bk ?_
   obtain ⟨n0, hn0⟩ : ∃ m, m = n := ⟨n, rfl⟩
   have ln0 : n0 ≤ n := Nat.le_of_eq hn0
   refine Stk.rgD [.rd [], .rd [], .rd [], .rd [b1], .rd [], .rd [], .rd [], .rd [], .rd [], .rd [], .rd [], .rd [b1], .rd [], .rd [], .rd [], .rd [], .rd [], .rd [], .rd []] none (by kernel_rfl) (by rfl) rfl (by simp [below, hn0, l_b1]) rfl ?_
   obtain ⟨x8, hx8, h⟩ := bnd h
   obtain ⟨i0x8, i1x8, i2x8, _⟩ := idx_ok hx8
   have ex8_3_39 : partOf T.T 39 (encs c41 a0.Funs) (v4.toNat * 4 + 3) = some (.ssl (encs c44 x8.Code) x8.Code.length false) := by
     have e0 := part_elem0 (e := c41) (z := 4) (T := T.T) (ty := 39) T.t39 (by decide) (by decide) hx8 3 (by decide)
     (try simp only [Nat.mul_one, Nat.add_zero] at e0)
     exact e0.trans (ld_41_3_39 _)
   have ex8_0_9 : partOf T.T 9 (encs c41 a0.Funs) (v4.toNat * 4) = some (.sc (.string x8.Name)) := by
     have e0 := part_elem0 (e := c41) (z := 4) (T := T.T) (ty := 9) T.t9 (by decide) (by decide) hx8 0 (by decide)
     (try simp only [Nat.mul_one, Nat.add_zero] at e0)
     exact e0.trans (ld_41_0_9 _)
   refine Stk.runD 19 (fun t H n => t 1 = .sc (.int .i64 a1) ∧ t 2 = .own b1 0 ∧ t 5 = .sc (.int .i64 (IntKind.i64.wrap ((IntKind.i64.wrap ((IntKind.i64.wrap (v3 + 1)) + (x8.Code.length : Int))) + (x8.Name.size : Int)))) ∧ t 6 = .sc (.int .i64 v4) ∧ H b1 = some (.cells (c26 a0) 26) ∧ b1 < n ∧ n0 ≤ n) (fun J hJ => ?_) ?_
   ·simp [-splice, f1, f2, f5, f6, f18, b_b1, ld_26_0_22, i0x8, i1x8, pd39, ex8_3_39, pd9, ex8_0_9]
    exact hJ _ _ _ ⟨by simp [f1], by simp [f2], by simp [-splice, f1, f2, f5, f6, f18, b_b1, ld_26_0_22, i0x8, i1x8, pd39, ex8_3_39, pd9, ex8_0_9], by simp [f6], b_b1, l_b1, ln0⟩
   clear f1 f2 f5 f6 f18 b_b1 l_b1 ln0
   rintro t H n ⟨f1, f2, f5, f6, b_b1, l_b1, ln0⟩
   refine Stk.onD ?_
   refine Stk.bn ?_
   refine Stk.rg ?_
   refine Stk.run 3 (fun t H n => t 1 = .sc (.int .i64 a1) ∧ t 2 = .own b1 0 ∧ t 5 = .sc (.int .i64 (IntKind.i64.wrap ((IntKind.i64.wrap ((IntKind.i64.wrap (v3 + 1)) + (x8.Code.length : Int))) + (x8.Name.size : Int)))) ∧ t 6 = .sc (.int .i64 (IntKind.i64.wrap (v4 + 1))) ∧ H b1 = some (.cells (c26 a0) 26) ∧ b1 < n) (fun J hJ => ?_) ?_
   ·simp [-splice, f1, f2, f5, f6, b_b1]
    exact hJ _ _ _ ⟨by simp [f1], by simp [f2], by simp [f5], by simp [-splice, f1, f2, f5, f6, b_b1], b_b1, l_b1⟩
   clear f1 f2 f5 f6 b_b1 l_b1 ln0
   rintro t H n ⟨f1, f2, f5, f6, b_b1, l_b1⟩
   refine Stk.on ?_
   exact Stk.ln μ (Nat.lt_succ_self _) (hJ2 _ _ _ _ ⟨(IntKind.i64.wrap ((IntKind.i64.wrap ((IntKind.i64.wrap (v3 + 1)) + (x8.Code.length : Int))) + (x8.Name.size : Int))), (IntKind.i64.wrap (v4 + 1)), h, f1, f2, f5, f6, b_b1, l_b1⟩)
  ·have h := cF hb7 h
   refine Stk.ex rfl ?_
   exact Stk.ln 0 (by decide) (hJ1 _ _ _ ⟨v3, h, f1, f2, f5, b_b1, l_b1⟩)
 clear h f1 f2 f5 f6 b_b1 l_b1
 rintro t H n ⟨v2, h, f1, f2, f5, b_b1, l_b1⟩
 subst hK1
 refine Stk.sq ?_
 refine Stk.sq ?_
 refine Stk.rg ?_
 refine Stk.run 1 (fun t H n => t 1 = .sc (.int .i64 a1) ∧ t 2 = .own b1 0 ∧ t 5 = .sc (.int .i64 v2) ∧ t 7 = .sc (.int .i64 0) ∧ H b1 = some (.cells (c26 a0) 26) ∧ b1 < n) (fun J hJ => ?_) ?_
 ·simp [-splice, f1, f2, f5, b_b1]
  exact hJ _ _ _ ⟨by simp [f1], by simp [f2], by simp [f5], by simp [-splice, f1, f2, f5, b_b1], b_b1, l_b1⟩
 clear f1 f2 f5 b_b1 l_b1
 rintro t H n ⟨f1, f2, f5, f7, b_b1, l_b1⟩
 refine Stk.on ?_
 obtain ⟨K4, hK4, h⟩ := jnd h
 refine Stk.jn (fun t H n => ∃ v9 : Int, K4 v9 = some r ∧ t 1 = .sc (.int .i64 a1) ∧ t 2 = .own b1 0 ∧ t 5 = .sc (.int .i64 v9) ∧ H b1 = some (.cells (c26 a0) 26) ∧ b1 < n) trivial (fun J4 hJ4 => ?_) ?_
 ·skip
  refine Stk.bk ?_
  refine Stk.lo (fun μ t H n => ∃ v10 : Int, ∃ v11 : Int, R20_Light_L1 F a0 a1 K4 μ v10 v11 = some r ∧ t 1 = .sc (.int .i64 a1) ∧ t 2 = .own b1 0 ∧ t 5 = .sc (.int .i64 v10) ∧ t 7 = .sc (.int .i64 v11) ∧ H b1 = some (.cells (c26 a0) 26) ∧ b1 < n) F ⟨v2, 0, h, f1, f2, f5, f7, b_b1, l_b1⟩ ?_
  clear h f1 f2 f5 f7 b_b1 l_b1
  rintro J5 hJ5 μ t H n ⟨v10, v11, h, f1, f2, f5, f7, b_b1, l_b1⟩
  cases μ with
  | zero => exact absurd h (by simp [R20_Light_L1])
  | succ μ =>
  rw [R20_Light_L1] at h
  refine Stk.sq ?_
  refine Stk.sq ?_
  refine Stk.rg ?_
  refine Stk.run 6 (fun t H n => t 1 = .sc (.int .i64 a1) ∧ t 2 = .own b1 0 ∧ t 5 = .sc (.int .i64 v10) ∧ t 7 = .sc (.int .i64 v11) ∧ t 44 = .sc (.bool (decide (v11 < (a0.Texts.length : Int)))) ∧ H b1 = some (.cells (c26 a0) 26) ∧ b1 < n) (fun J hJ => ?_) ?_
  ·simp [-splice, f1, f2, f5, f7, b_b1, ld_26_1_23]
   exact hJ _ _ _ ⟨by simp [f1], by simp [f2], by simp [f5], by simp [f7], by simp [-splice, f1, f2, f5, f7, b_b1, ld_26_1_23], b_b1, l_b1⟩
  clear f1 f2 f5 f7 b_b1 l_b1
  rintro t H n ⟨f1, f2, f5, f7, f44, b_b1, l_b1⟩
  refine Stk.jo 4 (fun t H n => t 1 = .sc (.int .i64 a1) ∧ t 2 = .own b1 0 ∧ t 5 = .sc (.int .i64 v10) ∧ t 7 = .sc (.int .i64 v11) ∧ t 48 = .sc (.bool ((decide (v11 < (a0.Texts.length : Int))) && (decide (v10 ≤ a1)))) ∧ H b1 = some (.cells (c26 a0) 26) ∧ b1 < n) (fun J6 hJ6 => ?_) ?_
  ·rcases Bool.eq_false_or_eq_true (decide (v11 < (a0.Texts.length : Int))) with hb6 | hb6
   ·rw [hb6] at f44
    refine Stk.run 4 (fun t H n => t 1 = .sc (.int .i64 a1) ∧ t 2 = .own b1 0 ∧ t 5 = .sc (.int .i64 v10) ∧ t 7 = .sc (.int .i64 v11) ∧ t 48 = .sc (.bool (decide (v10 ≤ a1))) ∧ H b1 = some (.cells (c26 a0) 26) ∧ b1 < n) (fun J hJ => ?_) ?_
    ·simp [-splice, f1, f2, f5, f7, f44, b_b1]
     exact hJ _ _ _ ⟨by simp [f1], by simp [f2], by simp [f5], by simp [f7], by simp [-splice, f1, f2, f5, f7, f44, b_b1], b_b1, l_b1⟩
    clear f1 f2 f5 f7 f44 b_b1 l_b1
    rintro t H n ⟨f1, f2, f5, f7, f48, b_b1, l_b1⟩
    refine Stk.on ?_
    exact Stk.ln 0 (by decide) (hJ6 _ _ _ ⟨f1, f2, f5, f7, f48.trans (congrArg (fun q => AV.sc (.bool q)) (by rw [hb6]; rfl)), b_b1, l_b1⟩)
   ·rw [hb6] at f44
    refine Stk.run 4 (fun t H n => t 1 = .sc (.int .i64 a1) ∧ t 2 = .own b1 0 ∧ t 5 = .sc (.int .i64 v10) ∧ t 7 = .sc (.int .i64 v11) ∧ t 48 = .sc (.bool false) ∧ H b1 = some (.cells (c26 a0) 26) ∧ b1 < n) (fun J hJ => ?_) ?_
    ·simp [-splice, f1, f2, f5, f7, f44, b_b1]
     exact hJ _ _ _ ⟨by simp [f1], by simp [f2], by simp [f5], by simp [f7], by simp [-splice, f1, f2, f5, f7, f44, b_b1], b_b1, l_b1⟩
    clear f1 f2 f5 f7 f44 b_b1 l_b1
    rintro t H n ⟨f1, f2, f5, f7, f48, b_b1, l_b1⟩
    refine Stk.on ?_
    exact Stk.ln 0 (by decide) (hJ6 _ _ _ ⟨f1, f2, f5, f7, f48.trans (congrArg (fun q => AV.sc (.bool q)) (by rw [hb6]; rfl)), b_b1, l_b1⟩)
  clear f1 f2 f5 f7 f44 b_b1 l_b1
  rintro t H n ⟨f1, f2, f5, f7, f48, b_b1, l_b1⟩
  refine Stk.on ?_
  refine Stk.cond ((decide (v11 < (a0.Texts.length : Int))) && (decide (v10 ≤ a1))) (by exact f48) (fun hb14 => ?_) (fun hb14 => ?_)
  ·have h := cT hb14 h
   refine Stk.sk ?_
   refine Stk.sq ?_
   refine Stk.bk ?_
   refine Stk.rg ?_
   obtain ⟨x15, hx15, h⟩ := bnd h
   obtain ⟨i0x15, i1x15, i2x15, _⟩ := idx_ok hx15
   have ex15_0_51 : partOf T.T 51 (encs c51 a0.Texts) (v11.toNat) = some (.ssl (encs c5 x15) x15.length false) := by
     have e0 := part_elem0 (e := c51) (z := 1) (T := T.T) (ty := 51) T.t51 (by decide) (by decide) hx15 0 (by decide)
     (try simp only [Nat.mul_one, Nat.add_zero] at e0)
     exact e0.trans rfl
   refine Stk.run 10 (fun t H n => t 1 = .sc (.int .i64 a1) ∧ t 2 = .own b1 0 ∧ t 5 = .sc (.int .i64 (IntKind.i64.wrap ((IntKind.i64.wrap (v10 + 1)) + (x15.length : Int)))) ∧ t 7 = .sc (.int .i64 v11) ∧ H b1 = some (.cells (c26 a0) 26) ∧ b1 < n) (fun J hJ => ?_) ?_
   ·simp [-splice, f1, f2, f5, f7, f48, b_b1, ld_26_1_23, i0x15, i1x15, pd51, ex15_0_51]
    exact hJ _ _ _ ⟨by simp [f1], by simp [f2], by simp [-splice, f1, f2, f5, f7, f48, b_b1, ld_26_1_23, i0x15, i1x15, pd51, ex15_0_51], by simp [f7], b_b1, l_b1⟩
   clear f1 f2 f5 f7 f48 b_b1 l_b1
   rintro t H n ⟨f1, f2, f5, f7, b_b1, l_b1⟩
   refine Stk.on ?_
   refine Stk.bn ?_
   refine Stk.rg ?_
   refine Stk.run 3 (fun t H n => t 1 = .sc (.int .i64 a1) ∧ t 2 = .own b1 0 ∧ t 5 = .sc (.int .i64 (IntKind.i64.wrap ((IntKind.i64.wrap (v10 + 1)) + (x15.length : Int)))) ∧ t 7 = .sc (.int .i64 (IntKind.i64.wrap (v11 + 1))) ∧ H b1 = some (.cells (c26 a0) 26) ∧ b1 < n) (fun J hJ => ?_) ?_
   ·simp [-splice, f1, f2, f5, f7, b_b1]
    exact hJ _ _ _ ⟨by simp [f1], by simp [f2], by simp [f5], by simp [-splice, f1, f2, f5, f7, b_b1], b_b1, l_b1⟩
   clear f1 f2 f5 f7 b_b1 l_b1
   rintro t H n ⟨f1, f2, f5, f7, b_b1, l_b1⟩
   refine Stk.on ?_
   exact Stk.ln μ (Nat.lt_succ_self _) (hJ5 _ _ _ _ ⟨(IntKind.i64.wrap ((IntKind.i64.wrap (v10 + 1)) + (x15.length : Int))), (IntKind.i64.wrap (v11 + 1)), h, f1, f2, f5, f7, b_b1, l_b1⟩)
  ·have h := cF hb14 h
   refine Stk.ex rfl ?_
   exact Stk.ln 0 (by decide) (hJ4 _ _ _ ⟨v10, h, f1, f2, f5, b_b1, l_b1⟩)
 clear h f1 f2 f5 f7 b_b1 l_b1
 rintro t H n ⟨v9, h, f1, f2, f5, b_b1, l_b1⟩
 subst hK4
 refine Stk.sq ?_
 refine Stk.sq ?_
 refine Stk.rg ?_
 refine Stk.run 1 (fun t H n => t 1 = .sc (.int .i64 a1) ∧ t 2 = .own b1 0 ∧ t 5 = .sc (.int .i64 v9) ∧ t 8 = .sc (.int .i64 0) ∧ H b1 = some (.cells (c26 a0) 26) ∧ b1 < n) (fun J hJ => ?_) ?_
 ·simp [-splice, f1, f2, f5, b_b1]
  exact hJ _ _ _ ⟨by simp [f1], by simp [f2], by simp [f5], by simp [-splice, f1, f2, f5, b_b1], b_b1, l_b1⟩
 clear f1 f2 f5 b_b1 l_b1
 rintro t H n ⟨f1, f2, f5, f8, b_b1, l_b1⟩
 refine Stk.on ?_
 refine Stk.bk ?_
 refine Stk.lo (fun μ t H n => ∃ v16 : Int, ∃ v17 : Int, R20_Light_L2 F a0 a1 μ v16 v17 = some r ∧ t 1 = .sc (.int .i64 a1) ∧ t 2 = .own b1 0 ∧ t 5 = .sc (.int .i64 v16) ∧ t 8 = .sc (.int .i64 v17) ∧ H b1 = some (.cells (c26 a0) 26) ∧ b1 < n) F ⟨v9, 0, h, f1, f2, f5, f8, b_b1, l_b1⟩ ?_
 clear h f1 f2 f5 f8 b_b1 l_b1
 rintro J7 hJ7 μ t H n ⟨v16, v17, h, f1, f2, f5, f8, b_b1, l_b1⟩
 cases μ with
 | zero => exact absurd h (by simp [R20_Light_L2])
 | succ μ =>
 rw [R20_Light_L2] at h
 refine Stk.sq ?_
 refine Stk.sq ?_
 refine Stk.rg ?_
 refine Stk.run 6 (fun t H n => t 1 = .sc (.int .i64 a1) ∧ t 2 = .own b1 0 ∧ t 5 = .sc (.int .i64 v16) ∧ t 8 = .sc (.int .i64 v17) ∧ t 65 = .sc (.bool (decide (v17 < (a0.Tables.length : Int)))) ∧ H b1 = some (.cells (c26 a0) 26) ∧ b1 < n) (fun J hJ => ?_) ?_
 ·simp [-splice, f1, f2, f5, f8, b_b1, ld_26_2_24]
  exact hJ _ _ _ ⟨by simp [f1], by simp [f2], by simp [f5], by simp [f8], by simp [-splice, f1, f2, f5, f8, b_b1, ld_26_2_24], b_b1, l_b1⟩
 clear f1 f2 f5 f8 b_b1 l_b1
 rintro t H n ⟨f1, f2, f5, f8, f65, b_b1, l_b1⟩
 refine Stk.jo 4 (fun t H n => t 1 = .sc (.int .i64 a1) ∧ t 2 = .own b1 0 ∧ t 5 = .sc (.int .i64 v16) ∧ t 8 = .sc (.int .i64 v17) ∧ t 69 = .sc (.bool ((decide (v17 < (a0.Tables.length : Int))) && (decide (v16 ≤ a1)))) ∧ H b1 = some (.cells (c26 a0) 26) ∧ b1 < n) (fun J8 hJ8 => ?_) ?_
 ·rcases Bool.eq_false_or_eq_true (decide (v17 < (a0.Tables.length : Int))) with hb8 | hb8
  ·rw [hb8] at f65
   refine Stk.run 4 (fun t H n => t 1 = .sc (.int .i64 a1) ∧ t 2 = .own b1 0 ∧ t 5 = .sc (.int .i64 v16) ∧ t 8 = .sc (.int .i64 v17) ∧ t 69 = .sc (.bool (decide (v16 ≤ a1))) ∧ H b1 = some (.cells (c26 a0) 26) ∧ b1 < n) (fun J hJ => ?_) ?_
   ·simp [-splice, f1, f2, f5, f8, f65, b_b1]
    exact hJ _ _ _ ⟨by simp [f1], by simp [f2], by simp [f5], by simp [f8], by simp [-splice, f1, f2, f5, f8, f65, b_b1], b_b1, l_b1⟩
   clear f1 f2 f5 f8 f65 b_b1 l_b1
   rintro t H n ⟨f1, f2, f5, f8, f69, b_b1, l_b1⟩
   refine Stk.on ?_
   exact Stk.ln 0 (by decide) (hJ8 _ _ _ ⟨f1, f2, f5, f8, f69.trans (congrArg (fun q => AV.sc (.bool q)) (by rw [hb8]; rfl)), b_b1, l_b1⟩)
  ·rw [hb8] at f65
   refine Stk.run 4 (fun t H n => t 1 = .sc (.int .i64 a1) ∧ t 2 = .own b1 0 ∧ t 5 = .sc (.int .i64 v16) ∧ t 8 = .sc (.int .i64 v17) ∧ t 69 = .sc (.bool false) ∧ H b1 = some (.cells (c26 a0) 26) ∧ b1 < n) (fun J hJ => ?_) ?_
   ·simp [-splice, f1, f2, f5, f8, f65, b_b1]
    exact hJ _ _ _ ⟨by simp [f1], by simp [f2], by simp [f5], by simp [f8], by simp [-splice, f1, f2, f5, f8, f65, b_b1], b_b1, l_b1⟩
   clear f1 f2 f5 f8 f65 b_b1 l_b1
   rintro t H n ⟨f1, f2, f5, f8, f69, b_b1, l_b1⟩
   refine Stk.on ?_
   exact Stk.ln 0 (by decide) (hJ8 _ _ _ ⟨f1, f2, f5, f8, f69.trans (congrArg (fun q => AV.sc (.bool q)) (by rw [hb8]; rfl)), b_b1, l_b1⟩)
 clear f1 f2 f5 f8 f65 b_b1 l_b1
 rintro t H n ⟨f1, f2, f5, f8, f69, b_b1, l_b1⟩
 refine Stk.on ?_
 refine Stk.cond ((decide (v17 < (a0.Tables.length : Int))) && (decide (v16 ≤ a1))) (by exact f69) (fun hb20 => ?_) (fun hb20 => ?_)
 ·have h := cT hb20 h
  refine Stk.sk ?_
  refine Stk.sq ?_
  refine Stk.bk ?_
  refine Stk.rg ?_
  obtain ⟨x21, hx21, h⟩ := bnd h
  obtain ⟨i0x21, i1x21, i2x21, _⟩ := idx_ok hx21
  have ex21_0_47 : partOf T.T 47 (encs c47 a0.Tables) (v17.toNat) = some (.ssl (encs c3 x21) x21.length false) := by
    have e0 := part_elem0 (e := c47) (z := 1) (T := T.T) (ty := 47) T.t47 (by decide) (by decide) hx21 0 (by decide)
    (try simp only [Nat.mul_one, Nat.add_zero] at e0)
    exact e0.trans rfl
  refine Stk.run 10 (fun t H n => t 1 = .sc (.int .i64 a1) ∧ t 2 = .own b1 0 ∧ t 5 = .sc (.int .i64 (IntKind.i64.wrap ((IntKind.i64.wrap (v16 + 1)) + (x21.length : Int)))) ∧ t 8 = .sc (.int .i64 v17) ∧ H b1 = some (.cells (c26 a0) 26) ∧ b1 < n) (fun J hJ => ?_) ?_
  ·simp [-splice, f1, f2, f5, f8, f69, b_b1, ld_26_2_24, i0x21, i1x21, pd47, ex21_0_47]
   exact hJ _ _ _ ⟨by simp [f1], by simp [f2], by simp [-splice, f1, f2, f5, f8, f69, b_b1, ld_26_2_24, i0x21, i1x21, pd47, ex21_0_47], by simp [f8], b_b1, l_b1⟩
  clear f1 f2 f5 f8 f69 b_b1 l_b1
  rintro t H n ⟨f1, f2, f5, f8, b_b1, l_b1⟩
  refine Stk.on ?_
  refine Stk.bn ?_
  refine Stk.rg ?_
  refine Stk.run 3 (fun t H n => t 1 = .sc (.int .i64 a1) ∧ t 2 = .own b1 0 ∧ t 5 = .sc (.int .i64 (IntKind.i64.wrap ((IntKind.i64.wrap (v16 + 1)) + (x21.length : Int)))) ∧ t 8 = .sc (.int .i64 (IntKind.i64.wrap (v17 + 1))) ∧ H b1 = some (.cells (c26 a0) 26) ∧ b1 < n) (fun J hJ => ?_) ?_
  ·simp [-splice, f1, f2, f5, f8, b_b1]
   exact hJ _ _ _ ⟨by simp [f1], by simp [f2], by simp [f5], by simp [-splice, f1, f2, f5, f8, b_b1], b_b1, l_b1⟩
  clear f1 f2 f5 f8 b_b1 l_b1
  rintro t H n ⟨f1, f2, f5, f8, b_b1, l_b1⟩
  refine Stk.on ?_
  exact Stk.ln μ (Nat.lt_succ_self _) (hJ7 _ _ _ _ ⟨(IntKind.i64.wrap ((IntKind.i64.wrap (v16 + 1)) + (x21.length : Int))), (IntKind.i64.wrap (v17 + 1)), h, f1, f2, f5, f8, b_b1, l_b1⟩)
 ·have h := cF hb20 h
  refine Stk.ex rfl ?_
  refine Stk.sq ?_
  refine Stk.rg ?_
  refine Stk.run 4 (fun t H n => t 4 = .sc (.bool (decide (v16 ≤ a1)))) (fun J hJ => ?_) ?_
  ·simp [-splice, f1, f2, f5, f8, f69, b_b1]
   exact hJ _ _ _ (by simp [-splice, f1, f2, f5, f8, f69, b_b1])
  clear f1 f2 f5 f8 f69 b_b1 l_b1
  rintro t H n f4
  refine Stk.on ?_
  refine Stk.rt ?_
  have hq := Option.some.inj h; subst hq
  exact (hr _ _ _ (.sc (.bool (decide (v16 ≤ a1)))) ([]) (by simp [f4]) (.inr (.inr (.free (rfl))))).1
end Go.Proofs.Ytcdafogfmijcpaa.M
