/-
  For AstFits: texts of the road to it, 13 of 16.
-/
import Derived.Test.YtappiofmkoelnaaGreatDoorKAstFits11
section
namespace Go.Proofs.YtappiofmkoelnaaGreatDoor.M
open Go.Proofs.YtappiofmkoelnaaGreatDoorW.Ah Go.Proofs.YtappiofmkoelnaaGreatDoor
set_option linter.unusedVariables false
set_option linter.unusedSimpArgs false
set_option maxRecDepth 8000
attribute [local simp] T.t2 T.t3 T.t4 T.t9 T.t29 T.t30 T.t31 T.t33 T.t37 T.t39 T.t45 T.t68 T.t153 T.t157 List.range List.range.loop
attribute [-simp] appendAV fillAV
theorem ok_ast_of (F : Nat) (a0 : api_Expr) (r : (ast_shape × Bool)) (h : ast_of F a0 = some r) : RunF Tryz.prog T.T 120 [.agg (c33 a0)] (.tup [.agg (c153 r.1), .sc (.bool r.2)]) := by
  rw [ast_of] at h
  refine RunF.z Tryz.func120 rfl rfl rfl rfl rfl (fun C hr => ?_)
  refine Stk.gen (fun t H n => t 0 = .agg (c33 a0)) (by simp) ?_
  rintro t H n f0
  refine evY_sound (f := 2) ?_; simp [-splice, f0]
  refine Stk.gen (fun t H n => t 0 = .agg (c33 a0)) (by simp [-splice, f0]) ?_
  clear f0
  rintro t H n f0
  refine Stk.om (mop_box T.t33 (cs := c33 a0) (by show partOk (t 0) = true; rw [f0]; rfl) (by show cellsOf (t 0) = _; rw [f0]; rfl)) (by simp [f0]) rfl (fun t' ht' => ?_)
  refine Stk.gen (fun t H n => ∃ b1, t 1 = .own b1 0 ∧ H b1 = some (.cells (c33 a0) 33) ∧ b1 < n) ⟨n, by simp [ht'], upd_same _ _ _, Nat.lt_succ_self _⟩ ?_
  clear f0 ht' t'
  rintro t H n ⟨b1, f1, b_b1, l_b1⟩
  refine Stk.om (mop_alloc T.t153 (cs := c153 (ast_shape.mk false false false 0 0 false)) rfl) (by simp [f1]) rfl (fun t' ht' => ?_)
  refine Stk.gen (fun t H n => ∃ b2, t 1 = .own b1 0 ∧ t 2 = .own b2 0 ∧ H b1 = some (.cells (c33 a0) 33) ∧ b1 < n ∧ H b2 = some (.cells (c153 (ast_shape.mk false false false 0 0 false)) 153) ∧ b2 < n ∧ b1 ≠ b2) ⟨n, by simp [ht', f1], by simp [ht'], (upd_ne _ _ (Nat.ne_of_lt l_b1)).trans b_b1, Nat.lt_succ_of_lt l_b1, upd_same _ _ _, Nat.lt_succ_self _, Nat.ne_of_lt l_b1⟩ ?_
  clear f1 b_b1 l_b1 ht' t'
  rintro t H n ⟨b2, f1, f2, b_b1, l_b1, b_b2, l_b2, d_b1_b2⟩
  refine evY_sound (f := 14) ?_; simp [-splice, f1, f2, b_b1, b_b2, ld_33_0_3]
  refine Stk.cond (a0.Kind == 0) (by simp [-splice, f1, f2, b_b1, b_b2, ld_33_0_3]) (fun hb3 => ?_) (fun hb3 => ?_)
  ·have h := cT hb3 h
   refine evY_sound (f := 2) ?_; simp [-splice, f1, f2, b_b1, b_b2, ld_33_0_3]
   refine Stk.gen (fun t H n => t 1 = .own b1 0 ∧ t 2 = .own b2 0 ∧ t 6 = .sc (.int .i64 a0.Kind) ∧ t 7 = .sc (.bool (a0.Kind == 0)) ∧ H b1 = some (.cells (c33 a0) 33) ∧ b1 < n ∧ H b2 = some (.cells (c153 (ast_shape.mk false false false 0 0 false)) 153) ∧ b2 < n ∧ b1 ≠ b2) (by and_intros <;> first | assumption | simp [-splice, f1, f2, b_b1, b_b2, ld_33_0_3]) ?_
   clear f1 f2 b_b1 l_b1 b_b2 l_b2 d_b1_b2
   rintro t H n ⟨f1, f2, f6, f7, b_b1, l_b1, b_b2, l_b2, d_b1_b2⟩
   refine Stk.ov (vop_build T.t153 rfl rfl (cs := c153 (ast_shape.mk false false false 0 0 false)) (cs' := c153 (ast_shape.mk false true false 0 0 false)) rfl (.cons rfl rfl rfl rfl rfl (rfl) (by rw [len153]; decide) (st_153_1_4 _ _) (.nil))) (by simp [f1, f2, f6, f7]) rfl (fun t' ht' => ?_)
   refine Stk.gen (fun t H n => t 1 = .own b1 0 ∧ t 2 = .own b2 0 ∧ t 9 = .agg (c153 (ast_shape.mk false true false 0 0 false)) ∧ H b1 = some (.cells (c33 a0) 33) ∧ b1 < n ∧ H b2 = some (.cells (c153 (ast_shape.mk false false false 0 0 false)) 153) ∧ b2 < n ∧ b1 ≠ b2) ⟨by simp [ht', f1], by simp [ht', f2], by simp [ht'], b_b1, l_b1, b_b2, l_b2, d_b1_b2⟩ ?_
   clear f1 f2 f6 f7 b_b1 l_b1 b_b2 l_b2 d_b1_b2 ht' t'
   rintro t H n ⟨f1, f2, f9, b_b1, l_b1, b_b2, l_b2, d_b1_b2⟩
   obtain ⟨x4, hx4, h⟩ := bnd h
   refine evY_sound (f := 2) ?_; simp [-splice, f1, f2, f9, b_b1, b_b2, ld_33_3_2]
   refine Stk.cv (g := 125) (args := [.sc (.int .i64 a0.Num)]) (args' := [.sc (.int .i64 a0.Num)]) (v := .sc (.bool x4)) [] (ok_ast_number F _ _ hx4) (by simp [-splice, f1, f2, f9, b_b1, b_b2, ld_33_3_2]) rfl rfl (by simp [-splice, f1, f2, f9, b_b1, b_b2, ld_33_3_2]) (.cons (.free (rfl)) (.nil)) (.inl ⟨rfl, rfl⟩) (fun t' ht' => ?_)
   subst ht'
   refine Stk.gen (fun t H n => t 2 = .own b2 0 ∧ t 9 = .agg (c153 (ast_shape.mk false true false 0 0 false)) ∧ t 12 = .sc (.bool x4) ∧ H b2 = some (.cells (c153 (ast_shape.mk false false false 0 0 false)) 153) ∧ b2 < n) (by and_intros <;> first | assumption | simp [-splice, f1, f2, f9, b_b1, b_b2, ld_33_3_2]) ?_
   clear f1 f2 f9 b_b1 l_b1 b_b2 l_b2 d_b1_b2
   rintro t H n ⟨f2, f9, f12, b_b2, l_b2⟩
   refine Stk.om (mop_store (z := 6) rfl f2 b_b2 f9 (len153 _) (by rw [len153]; decide) (ok153 _) (st_153_0_153 _ _)) (by simp [f2, f9, f12]) rfl (fun t' ht' => ?_)
   refine Stk.gen (fun t H n => t 2 = .own b2 0 ∧ t 12 = .sc (.bool x4) ∧ H b2 = some (.cells (c153 (ast_shape.mk false true false 0 0 false)) 153) ∧ b2 < n) ⟨by simp [ht', f2], by simp [ht', f12], upd_same _ _ _, l_b2⟩ ?_
   clear f2 f9 f12 b_b2 l_b2 ht' t'
   rintro t H n ⟨f2, f12, b_b2, l_b2⟩
   refine evY_sound (f := 3) ?_; simp [-splice, f2, f12, b_b2]
   have hq := Option.some.inj h; subst hq
   exact (hr _ _ _ (.tup [.agg (c153 (ast_shape.mk false true false 0 0 false)), .sc (.bool x4)]) ([]) (by simp [-splice, f2, f12, b_b2, ld_153_0_153]) (.inr (.inr (.tup (.cons (.free (fr153 _)) (.cons (.free (rfl)) (.nil))))))).1
  ·have h := cF hb3 h
   refine evY_sound (f := 5) ?_; simp [-splice, f1, f2, b_b1, b_b2, ld_33_0_3]
   refine Stk.cond (a0.Kind == 1) (by simp [-splice, f1, f2, b_b1, b_b2, ld_33_0_3]) (fun hb5 => ?_) (fun hb5 => ?_)
   ·have h := cT hb5 h
    refine evY_sound (f := 1) ?_; simp [-splice, f1, f2, b_b1, b_b2, ld_33_0_3]
    refine Stk.gen (fun t H n => t 1 = .own b1 0 ∧ t 2 = .own b2 0 ∧ t 6 = .sc (.int .i64 a0.Kind) ∧ t 13 = .sc (.bool (a0.Kind == 1)) ∧ H b1 = some (.cells (c33 a0) 33) ∧ b1 < n ∧ H b2 = some (.cells (c153 (ast_shape.mk false false false 0 0 false)) 153) ∧ b2 < n ∧ b1 ≠ b2) (by and_intros <;> first | assumption | simp [-splice, f1, f2, b_b1, b_b2, ld_33_0_3]) ?_
    clear f1 f2 b_b1 l_b1 b_b2 l_b2 d_b1_b2
    rintro t H n ⟨f1, f2, f6, f13, b_b1, l_b1, b_b2, l_b2, d_b1_b2⟩
    obtain ⟨n0, hn0⟩ : ∃ m, m = n := ⟨n, rfl⟩
    have ln0 : n0 ≤ n := Nat.le_of_eq hn0
    refine Stk.rgD [.rd [], .rd [], .rd [b1], .rd [], .rd [], .mem [b2] n0, .rd []] none (by kernel_rfl) (drawOk2_ren [b1, b2] (by simp [d_b1_b2]) n0 [.rd [], .rd [], .rd [0], .rd [], .rd [], .mem [1] 0, .rd []] rfl (by rfl)) rfl (by simp [below, hn0, l_b1, hn0, l_b2]) rfl ?_
    refine Stk.ovD rfl (by simp [f1, f2, f6, f13]) rfl (vop_build T.t153 rfl rfl (cs := c153 (ast_shape.mk false false false 0 0 false)) (cs' := c153 (ast_shape.mk false false true 0 0 false)) rfl (.cons rfl rfl rfl rfl rfl (rfl) (by rw [len153]; decide) (st_153_2_4 _ _) (.nil))) (by simp [f1, f2, f6, f13]) rfl (fun t' ht' => ?_)
    refine Stk.gen (fun t H n => t 1 = .own b1 0 ∧ t 2 = .own b2 0 ∧ t 15 = .agg (c153 (ast_shape.mk false false true 0 0 false)) ∧ H b1 = some (.cells (c33 a0) 33) ∧ b1 < n ∧ H b2 = some (.cells (c153 (ast_shape.mk false false false 0 0 false)) 153) ∧ b2 < n ∧ b1 ≠ b2 ∧ n0 ≤ n) ⟨by simp [ht', f1], by simp [ht', f2], by simp [ht'], b_b1, l_b1, b_b2, l_b2, d_b1_b2, ln0⟩ ?_
    clear f1 f2 f6 f13 b_b1 l_b1 b_b2 l_b2 d_b1_b2 ln0 ht' t'
    rintro t H n ⟨f1, f2, f15, b_b1, l_b1, b_b2, l_b2, d_b1_b2, ln0⟩
    refine evY_sound (f := 4) ?_; simp [-splice, f1, f2, f15, b_b1, b_b2, ld_33_4_29]
    refine Stk.gen (fun t H n => t 2 = .own b2 0 ∧ t 15 = .agg (c153 (ast_shape.mk false false true 0 0 false)) ∧ t 19 = .sc (.bool (decide ((a0.Bytes.length : Int) ≤ 64))) ∧ H b2 = some (.cells (c153 (ast_shape.mk false false false 0 0 false)) 153) ∧ b2 < n ∧ n0 ≤ n) (by and_intros <;> first | assumption | simp [-splice, f1, f2, f15, b_b1, b_b2, ld_33_4_29]) ?_
    clear f1 f2 f15 b_b1 l_b1 b_b2 l_b2 d_b1_b2 ln0
    rintro t H n ⟨f2, f15, f19, b_b2, l_b2, ln0⟩
    refine Stk.omD (S := [b2]) (b := n0) rfl (fun j hj hm => upd_ne _ _ (by simpa using hm)) rfl (mop_store (z := 6) rfl f2 b_b2 f15 (len153 _) (by rw [len153]; decide) (ok153 _) (st_153_0_153 _ _)) (by simp [f2, f15, f19]) rfl (fun t' ht' => ?_)
    refine Stk.gen (fun t H n => t 2 = .own b2 0 ∧ t 19 = .sc (.bool (decide ((a0.Bytes.length : Int) ≤ 64))) ∧ H b2 = some (.cells (c153 (ast_shape.mk false false true 0 0 false)) 153) ∧ b2 < n ∧ n0 ≤ n) ⟨by simp [ht', f2], by simp [ht', f19], upd_same _ _ _, l_b2, ln0⟩ ?_
    clear f2 f15 f19 b_b2 l_b2 ln0 ht' t'
    rintro t H n ⟨f2, f19, b_b2, l_b2, ln0⟩
    refine evY_sound (f := 3) ?_; simp [-splice, f2, f19, b_b2]
    have hq := Option.some.inj h; subst hq
    exact (hr _ _ _ (.tup [.agg (c153 (ast_shape.mk false false true 0 0 false)), .sc (.bool (decide ((a0.Bytes.length : Int) ≤ 64)))]) ([]) (by simp [-splice, f2, f19, b_b2, ld_153_0_153]) (.inr (.inr (.tup (.cons (.free (fr153 _)) (.cons (.free (rfl)) (.nil))))))).1
   ·have h := cF hb5 h
    refine evY_sound (f := 5) ?_; simp [-splice, f1, f2, b_b1, b_b2, ld_33_0_3]
    refine Stk.cond (a0.Kind == 2) (by simp [-splice, f1, f2, b_b1, b_b2, ld_33_0_3]) (fun hb6 => ?_) (fun hb6 => ?_)
    ·have h := cT hb6 h
     refine evY_sound (f := 1) ?_; simp [-splice, f1, f2, b_b1, b_b2, ld_33_0_3]
     refine Stk.gen (fun t H n => t 1 = .own b1 0 ∧ t 2 = .own b2 0 ∧ t 6 = .sc (.int .i64 a0.Kind) ∧ t 20 = .sc (.bool (a0.Kind == 2)) ∧ H b1 = some (.cells (c33 a0) 33) ∧ b1 < n ∧ H b2 = some (.cells (c153 (ast_shape.mk false false false 0 0 false)) 153) ∧ b2 < n ∧ b1 ≠ b2) (by and_intros <;> first | assumption | simp [-splice, f1, f2, b_b1, b_b2, ld_33_0_3]) ?_
     clear f1 f2 b_b1 l_b1 b_b2 l_b2 d_b1_b2
     rintro t H n ⟨f1, f2, f6, f20, b_b1, l_b1, b_b2, l_b2, d_b1_b2⟩
     obtain ⟨n0, hn0⟩ : ∃ m, m = n := ⟨n, rfl⟩
     have ln0 : n0 ≤ n := Nat.le_of_eq hn0
     refine Stk.rgD [.rd [], .rd [], .rd [b1], .rd [], .rd [], .rd [], .rd [b1], .rd [], .rd [], .mem [b2] n0, .rd []] none (by kernel_rfl) (drawOk2_ren [b1, b2] (by simp [d_b1_b2]) n0 [.rd [], .rd [], .rd [0], .rd [], .rd [], .rd [], .rd [0], .rd [], .rd [], .mem [1] 0, .rd []] rfl (by rfl)) rfl (by simp [below, hn0, l_b1, hn0, l_b2]) rfl ?_
     refine Stk.ovD rfl (by simp [f1, f2, f6, f20]) rfl (vop_build T.t153 rfl rfl (cs := c153 (ast_shape.mk false false false 0 0 false)) (cs' := c153 (ast_shape.mk true false false 0 0 false)) rfl (.cons rfl rfl rfl rfl rfl (rfl) (by rw [len153]; decide) (st_153_0_4 _ _) (.nil))) (by simp [f1, f2, f6, f20]) rfl (fun t' ht' => ?_)
     refine Stk.gen (fun t H n => t 1 = .own b1 0 ∧ t 2 = .own b2 0 ∧ t 22 = .agg (c153 (ast_shape.mk true false false 0 0 false)) ∧ H b1 = some (.cells (c33 a0) 33) ∧ b1 < n ∧ H b2 = some (.cells (c153 (ast_shape.mk false false false 0 0 false)) 153) ∧ b2 < n ∧ b1 ≠ b2 ∧ n0 ≤ n) ⟨by simp [ht', f1], by simp [ht', f2], by simp [ht'], b_b1, l_b1, b_b2, l_b2, d_b1_b2, ln0⟩ ?_
     clear f1 f2 f6 f20 b_b1 l_b1 b_b2 l_b2 d_b1_b2 ln0 ht' t'
     rintro t H n ⟨f1, f2, f22, b_b1, l_b1, b_b2, l_b2, d_b1_b2, ln0⟩
     obtain ⟨x7, hx7, h⟩ := bnd h
     refine evY_sound (f := 2) ?_; simp [-splice, f1, f2, f22, b_b1, b_b2, ld_33_5_9]
     refine Stk.cvD (g := 112) (args := [.sc (.string a0.Name)]) (args' := [.sc (.string a0.Name)]) (v := .sc (.bool x7)) [] (ok_ast_small F _ _ hx7) rfl (by simp) rfl (by simp [-splice, f1, f2, f22, b_b1, b_b2, ld_33_5_9]) rfl rfl (by simp [-splice, f1, f2, f22, b_b1, b_b2, ld_33_5_9]) (.cons (.free (rfl)) (.nil)) (.inl ⟨rfl, rfl⟩) (fun t' ht' => ?_)
     subst ht'
     refine evY_sound (f := 1) ?_; simp [-splice, f1, f2, f22, b_b1, b_b2, ld_33_5_9]
     refine Stk.gen (fun t H n => t 1 = .own b1 0 ∧ t 2 = .own b2 0 ∧ t 22 = .agg (c153 (ast_shape.mk true false false 0 0 false)) ∧ t 26 = .sc (.bool x7) ∧ H b1 = some (.cells (c33 a0) 33) ∧ b1 < n ∧ H b2 = some (.cells (c153 (ast_shape.mk false false false 0 0 false)) 153) ∧ b2 < n ∧ b1 ≠ b2 ∧ n0 ≤ n) (by and_intros <;> first | assumption | simp [-splice, f1, f2, f22, b_b1, b_b2, ld_33_5_9]) ?_
     clear f1 f2 f22 b_b1 l_b1 b_b2 l_b2 d_b1_b2 ln0
     rintro t H n ⟨f1, f2, f22, f26, b_b1, l_b1, b_b2, l_b2, d_b1_b2, ln0⟩
     refine Stk.jd 4 (fun t H n => t 2 = .own b2 0 ∧ t 22 = .agg (c153 (ast_shape.mk true false false 0 0 false)) ∧ t 30 = .sc (.bool (x7 || (a0.Name.toList == (⟨#[115, 116, 97, 116, 101]⟩ : ByteArray).toList))) ∧ H b2 = some (.cells (c153 (ast_shape.mk false false false 0 0 false)) 153) ∧ b2 < n ∧ n0 ≤ n) (fun J1 hJ1 => ?_) ?_
     · rcases Bool.eq_false_or_eq_true x7 with hb1 | hb1
       · rw [hb1] at f26
         refine evY_sound (f := 5) ?_; simp [-splice, f1, f2, f22, f26, b_b1, b_b2]
         refine Stk.gen (fun t H n => t 2 = .own b2 0 ∧ t 22 = .agg (c153 (ast_shape.mk true false false 0 0 false)) ∧ t 30 = .sc (.bool true) ∧ H b2 = some (.cells (c153 (ast_shape.mk false false false 0 0 false)) 153) ∧ b2 < n ∧ n0 ≤ n) (by and_intros <;> first | assumption | simp [-splice, f1, f2, f22, f26, b_b1, b_b2]) ?_
         clear f1 f2 f22 f26 b_b1 l_b1 b_b2 l_b2 d_b1_b2 ln0
         rintro t H n ⟨f2, f22, f30, b_b2, l_b2, ln0⟩
         exact Stk.ln 0 (by decide) (hJ1 _ _ _ ⟨f2, f22, f30.trans (congrArg (fun q => AV.sc (.bool q)) (by rw [hb1]; rfl)), b_b2, l_b2, ln0⟩)
       · rw [hb1] at f26
         refine evY_sound (f := 5) ?_; simp [-splice, f1, f2, f22, f26, b_b1, b_b2, ld_33_5_9]
         refine Stk.gen (fun t H n => t 2 = .own b2 0 ∧ t 22 = .agg (c153 (ast_shape.mk true false false 0 0 false)) ∧ t 30 = .sc (.bool (a0.Name.toList == (⟨#[115, 116, 97, 116, 101]⟩ : ByteArray).toList)) ∧ H b2 = some (.cells (c153 (ast_shape.mk false false false 0 0 false)) 153) ∧ b2 < n ∧ n0 ≤ n) (by and_intros <;> first | assumption | simp [-splice, f1, f2, f22, f26, b_b1, b_b2, ld_33_5_9]) ?_
         clear f1 f2 f22 f26 b_b1 l_b1 b_b2 l_b2 d_b1_b2 ln0
         rintro t H n ⟨f2, f22, f30, b_b2, l_b2, ln0⟩
         exact Stk.ln 0 (by decide) (hJ1 _ _ _ ⟨f2, f22, f30.trans (congrArg (fun q => AV.sc (.bool q)) (by rw [hb1]; rfl)), b_b2, l_b2, ln0⟩)
     clear f1 f2 f22 f26 b_b1 l_b1 b_b2 l_b2 d_b1_b2 ln0
     rintro t H n ⟨f2, f22, f30, b_b2, l_b2, ln0⟩
     refine Stk.omD (S := [b2]) (b := n0) rfl (fun j hj hm => upd_ne _ _ (by simpa using hm)) rfl (mop_store (z := 6) rfl f2 b_b2 f22 (len153 _) (by rw [len153]; decide) (ok153 _) (st_153_0_153 _ _)) (by simp [f2, f22, f30]) rfl (fun t' ht' => ?_)
     refine Stk.gen (fun t H n => t 2 = .own b2 0 ∧ t 30 = .sc (.bool (x7 || (a0.Name.toList == (⟨#[115, 116, 97, 116, 101]⟩ : ByteArray).toList))) ∧ H b2 = some (.cells (c153 (ast_shape.mk true false false 0 0 false)) 153) ∧ b2 < n ∧ n0 ≤ n) ⟨by simp [ht', f2], by simp [ht', f30], upd_same _ _ _, l_b2, ln0⟩ ?_
     clear f2 f22 f30 b_b2 l_b2 ln0 ht' t'
     rintro t H n ⟨f2, f30, b_b2, l_b2, ln0⟩
     refine evY_sound (f := 3) ?_; simp [-splice, f2, f30, b_b2]
     have hq := Option.some.inj h; subst hq
     exact (hr _ _ _ (.tup [.agg (c153 (ast_shape.mk true false false 0 0 false)), .sc (.bool (x7 || (a0.Name.toList == (⟨#[115, 116, 97, 116, 101]⟩ : ByteArray).toList)))]) ([]) (by simp [-splice, f2, f30, b_b2, ld_153_0_153]) (.inr (.inr (.tup (.cons (.free (fr153 _)) (.cons (.free (rfl)) (.nil))))))).1
    ·have h := cF hb6 h
     refine evY_sound (f := 5) ?_; simp [-splice, f1, f2, b_b1, b_b2, ld_33_0_3]
     refine Stk.cond (a0.Kind == 3) (by simp [-splice, f1, f2, b_b1, b_b2, ld_33_0_3]) (fun hb8 => ?_) (fun hb8 => ?_)
     ·have h := cT hb8 h
      refine evY_sound (f := 2) ?_; simp [-splice, f1, f2, b_b1, b_b2, ld_33_0_3]
      refine Stk.gen (fun t H n => t 1 = .own b1 0 ∧ t 2 = .own b2 0 ∧ t 6 = .sc (.int .i64 a0.Kind) ∧ t 31 = .sc (.bool (a0.Kind == 3)) ∧ H b1 = some (.cells (c33 a0) 33) ∧ b1 < n ∧ H b2 = some (.cells (c153 (ast_shape.mk false false false 0 0 false)) 153) ∧ b2 < n ∧ b1 ≠ b2) (by and_intros <;> first | assumption | simp [-splice, f1, f2, b_b1, b_b2, ld_33_0_3]) ?_
      clear f1 f2 b_b1 l_b1 b_b2 l_b2 d_b1_b2
      rintro t H n ⟨f1, f2, f6, f31, b_b1, l_b1, b_b2, l_b2, d_b1_b2⟩
      refine Stk.ov (vop_build T.t153 rfl rfl (cs := c153 (ast_shape.mk false false false 0 0 false)) (cs' := c153 (ast_shape.mk true false false 0 6 false)) rfl (.cons rfl rfl rfl rfl rfl (rfl) (by rw [len153]; decide) (st_153_0_4 _ _) (.cons rfl rfl rfl rfl rfl (rfl) (by rw [len153]; decide) (st_153_4_3 _ _) (.nil)))) (by simp [f1, f2, f6, f31]) rfl (fun t' ht' => ?_)
      refine Stk.gen (fun t H n => t 1 = .own b1 0 ∧ t 2 = .own b2 0 ∧ t 33 = .agg (c153 (ast_shape.mk true false false 0 6 false)) ∧ H b1 = some (.cells (c33 a0) 33) ∧ b1 < n ∧ H b2 = some (.cells (c153 (ast_shape.mk false false false 0 0 false)) 153) ∧ b2 < n ∧ b1 ≠ b2) ⟨by simp [ht', f1], by simp [ht', f2], by simp [ht'], b_b1, l_b1, b_b2, l_b2, d_b1_b2⟩ ?_
      clear f1 f2 f6 f31 b_b1 l_b1 b_b2 l_b2 d_b1_b2 ht' t'
      rintro t H n ⟨f1, f2, f33, b_b1, l_b1, b_b2, l_b2, d_b1_b2⟩
      obtain ⟨x9, hx9, h⟩ := bnd h
      refine evY_sound (f := 2) ?_; simp [-splice, f1, f2, f33, b_b1, b_b2, ld_33_5_9]
      refine Stk.cv (g := 126) (args := [.sc (.string a0.Name)]) (args' := [.sc (.string a0.Name)]) (v := .sc (.bool x9)) [] (ok_ast_great F _ _ hx9) (by simp [-splice, f1, f2, f33, b_b1, b_b2, ld_33_5_9]) rfl rfl (by simp [-splice, f1, f2, f33, b_b1, b_b2, ld_33_5_9]) (.cons (.free (rfl)) (.nil)) (.inl ⟨rfl, rfl⟩) (fun t' ht' => ?_)
      subst ht'
      refine Stk.gen (fun t H n => t 2 = .own b2 0 ∧ t 33 = .agg (c153 (ast_shape.mk true false false 0 6 false)) ∧ t 36 = .sc (.bool x9) ∧ H b2 = some (.cells (c153 (ast_shape.mk false false false 0 0 false)) 153) ∧ b2 < n) (by and_intros <;> first | assumption | simp [-splice, f1, f2, f33, b_b1, b_b2, ld_33_5_9]) ?_
      clear f1 f2 f33 b_b1 l_b1 b_b2 l_b2 d_b1_b2
      rintro t H n ⟨f2, f33, f36, b_b2, l_b2⟩
      refine Stk.om (mop_store (z := 6) rfl f2 b_b2 f33 (len153 _) (by rw [len153]; decide) (ok153 _) (st_153_0_153 _ _)) (by simp [f2, f33, f36]) rfl (fun t' ht' => ?_)
      refine Stk.gen (fun t H n => t 2 = .own b2 0 ∧ t 36 = .sc (.bool x9) ∧ H b2 = some (.cells (c153 (ast_shape.mk true false false 0 6 false)) 153) ∧ b2 < n) ⟨by simp [ht', f2], by simp [ht', f36], upd_same _ _ _, l_b2⟩ ?_
      clear f2 f33 f36 b_b2 l_b2 ht' t'
      rintro t H n ⟨f2, f36, b_b2, l_b2⟩
      refine evY_sound (f := 3) ?_; simp [-splice, f2, f36, b_b2]
      have hq := Option.some.inj h; subst hq
      exact (hr _ _ _ (.tup [.agg (c153 (ast_shape.mk true false false 0 6 false)), .sc (.bool x9)]) ([]) (by simp [-splice, f2, f36, b_b2, ld_153_0_153]) (.inr (.inr (.tup (.cons (.free (fr153 _)) (.cons (.free (rfl)) (.nil))))))).1
     ·have h := cF hb8 h
      refine evY_sound (f := 5) ?_; simp [-splice, f1, f2, b_b1, b_b2, ld_33_0_3]
      refine Stk.cond (a0.Kind == 4) (by simp [-splice, f1, f2, b_b1, b_b2, ld_33_0_3]) (fun hb10 => ?_) (fun hb10 => ?_)
      ·have h := cT hb10 h
       refine evY_sound (f := 2) ?_; simp [-splice, f1, f2, b_b1, b_b2, ld_33_0_3]
       refine Stk.gen (fun t H n => t 1 = .own b1 0 ∧ t 2 = .own b2 0 ∧ t 6 = .sc (.int .i64 a0.Kind) ∧ t 37 = .sc (.bool (a0.Kind == 4)) ∧ H b1 = some (.cells (c33 a0) 33) ∧ b1 < n ∧ H b2 = some (.cells (c153 (ast_shape.mk false false false 0 0 false)) 153) ∧ b2 < n ∧ b1 ≠ b2) (by and_intros <;> first | assumption | simp [-splice, f1, f2, b_b1, b_b2, ld_33_0_3]) ?_
       clear f1 f2 b_b1 l_b1 b_b2 l_b2 d_b1_b2
       rintro t H n ⟨f1, f2, f6, f37, b_b1, l_b1, b_b2, l_b2, d_b1_b2⟩
       refine Stk.ov (vop_build T.t153 rfl rfl (cs := c153 (ast_shape.mk false false false 0 0 false)) (cs' := c153 (ast_shape.mk false false false 2 6 false)) rfl (.cons rfl rfl rfl rfl rfl (rfl) (by rw [len153]; decide) (st_153_3_3 _ _) (.cons rfl rfl rfl rfl rfl (rfl) (by rw [len153]; decide) (st_153_4_3 _ _) (.nil)))) (by simp [f1, f2, f6, f37]) rfl (fun t' ht' => ?_)
       refine Stk.gen (fun t H n => t 2 = .own b2 0 ∧ t 39 = .agg (c153 (ast_shape.mk false false false 2 6 false)) ∧ H b2 = some (.cells (c153 (ast_shape.mk false false false 0 0 false)) 153) ∧ b2 < n) ⟨by simp [ht', f2], by simp [ht'], b_b2, l_b2⟩ ?_
       clear f1 f2 f6 f37 b_b1 l_b1 b_b2 l_b2 d_b1_b2 ht' t'
       rintro t H n ⟨f2, f39, b_b2, l_b2⟩
       refine Stk.om (mop_store (z := 6) rfl f2 b_b2 f39 (len153 _) (by rw [len153]; decide) (ok153 _) (st_153_0_153 _ _)) (by simp [f2, f39]) rfl (fun t' ht' => ?_)
       refine Stk.gen (fun t H n => t 2 = .own b2 0 ∧ H b2 = some (.cells (c153 (ast_shape.mk false false false 2 6 false)) 153) ∧ b2 < n) ⟨by simp [ht', f2], upd_same _ _ _, l_b2⟩ ?_
       clear f2 f39 b_b2 l_b2 ht' t'
       rintro t H n ⟨f2, b_b2, l_b2⟩
       refine evY_sound (f := 3) ?_; simp [-splice, f2, b_b2]
       have hq := Option.some.inj h; subst hq
       exact (hr _ _ _ (.tup [.agg (c153 (ast_shape.mk false false false 2 6 false)), .sc (.bool true)]) ([]) (by simp [-splice, f2, b_b2, ld_153_0_153]) (.inr (.inr (.tup (.cons (.free (fr153 _)) (.cons (.free (rfl)) (.nil))))))).1
      ·have h := cF hb10 h
       refine evY_sound (f := 5) ?_; simp [-splice, f1, f2, b_b1, b_b2, ld_33_0_3]
       refine Stk.cond (a0.Kind == 5) (by simp [-splice, f1, f2, b_b1, b_b2, ld_33_0_3]) (fun hb11 => ?_) (fun hb11 => ?_)
       ·have h := cT hb11 h
        refine evY_sound (f := 2) ?_; simp [-splice, f1, f2, b_b1, b_b2, ld_33_0_3]
        refine Stk.gen (fun t H n => t 1 = .own b1 0 ∧ t 2 = .own b2 0 ∧ t 6 = .sc (.int .i64 a0.Kind) ∧ t 40 = .sc (.bool (a0.Kind == 5)) ∧ H b1 = some (.cells (c33 a0) 33) ∧ b1 < n ∧ H b2 = some (.cells (c153 (ast_shape.mk false false false 0 0 false)) 153) ∧ b2 < n ∧ b1 ≠ b2) (by and_intros <;> first | assumption | simp [-splice, f1, f2, b_b1, b_b2, ld_33_0_3]) ?_
        clear f1 f2 b_b1 l_b1 b_b2 l_b2 d_b1_b2
        rintro t H n ⟨f1, f2, f6, f40, b_b1, l_b1, b_b2, l_b2, d_b1_b2⟩
        refine Stk.ov (vop_build T.t153 rfl rfl (cs := c153 (ast_shape.mk false false false 0 0 false)) (cs' := c153 (ast_shape.mk true false false 1 6 false)) rfl (.cons rfl rfl rfl rfl rfl (rfl) (by rw [len153]; decide) (st_153_0_4 _ _) (.cons rfl rfl rfl rfl rfl (rfl) (by rw [len153]; decide) (st_153_3_3 _ _) (.cons rfl rfl rfl rfl rfl (rfl) (by rw [len153]; decide) (st_153_4_3 _ _) (.nil))))) (by simp [f1, f2, f6, f40]) rfl (fun t' ht' => ?_)
        refine Stk.gen (fun t H n => t 1 = .own b1 0 ∧ t 2 = .own b2 0 ∧ t 42 = .agg (c153 (ast_shape.mk true false false 1 6 false)) ∧ H b1 = some (.cells (c33 a0) 33) ∧ b1 < n ∧ H b2 = some (.cells (c153 (ast_shape.mk false false false 0 0 false)) 153) ∧ b2 < n ∧ b1 ≠ b2) ⟨by simp [ht', f1], by simp [ht', f2], by simp [ht'], b_b1, l_b1, b_b2, l_b2, d_b1_b2⟩ ?_
        clear f1 f2 f6 f40 b_b1 l_b1 b_b2 l_b2 d_b1_b2 ht' t'
        rintro t H n ⟨f1, f2, f42, b_b1, l_b1, b_b2, l_b2, d_b1_b2⟩
        obtain ⟨x12, hx12, h⟩ := bnd h
        refine evY_sound (f := 2) ?_; simp [-splice, f1, f2, f42, b_b1, b_b2, ld_33_5_9]
        refine Stk.cv (g := 107) (args := [.sc (.string a0.Name)]) (args' := [.sc (.string a0.Name)]) (v := .sc (.bool x12)) [] (ok_ast_called F _ _ hx12) (by simp [-splice, f1, f2, f42, b_b1, b_b2, ld_33_5_9]) rfl rfl (by simp [-splice, f1, f2, f42, b_b1, b_b2, ld_33_5_9]) (.cons (.free (rfl)) (.nil)) (.inl ⟨rfl, rfl⟩) (fun t' ht' => ?_)
        subst ht'
        refine Stk.gen (fun t H n => t 2 = .own b2 0 ∧ t 42 = .agg (c153 (ast_shape.mk true false false 1 6 false)) ∧ t 45 = .sc (.bool x12) ∧ H b2 = some (.cells (c153 (ast_shape.mk false false false 0 0 false)) 153) ∧ b2 < n) (by and_intros <;> first | assumption | simp [-splice, f1, f2, f42, b_b1, b_b2, ld_33_5_9]) ?_
        clear f1 f2 f42 b_b1 l_b1 b_b2 l_b2 d_b1_b2
        rintro t H n ⟨f2, f42, f45, b_b2, l_b2⟩
        refine Stk.om (mop_store (z := 6) rfl f2 b_b2 f42 (len153 _) (by rw [len153]; decide) (ok153 _) (st_153_0_153 _ _)) (by simp [f2, f42, f45]) rfl (fun t' ht' => ?_)
        refine Stk.gen (fun t H n => t 2 = .own b2 0 ∧ t 45 = .sc (.bool x12) ∧ H b2 = some (.cells (c153 (ast_shape.mk true false false 1 6 false)) 153) ∧ b2 < n) ⟨by simp [ht', f2], by simp [ht', f45], upd_same _ _ _, l_b2⟩ ?_
        clear f2 f42 f45 b_b2 l_b2 ht' t'
        rintro t H n ⟨f2, f45, b_b2, l_b2⟩
        refine evY_sound (f := 3) ?_; simp [-splice, f2, f45, b_b2]
        have hq := Option.some.inj h; subst hq
        exact (hr _ _ _ (.tup [.agg (c153 (ast_shape.mk true false false 1 6 false)), .sc (.bool x12)]) ([]) (by simp [-splice, f2, f45, b_b2, ld_153_0_153]) (.inr (.inr (.tup (.cons (.free (fr153 _)) (.cons (.free (rfl)) (.nil))))))).1
       ·have h := cF hb11 h
        refine evY_sound (f := 5) ?_; simp [-splice, f1, f2, b_b1, b_b2, ld_33_0_3]
        refine Stk.cond (a0.Kind == 6) (by simp [-splice, f1, f2, b_b1, b_b2, ld_33_0_3]) (fun hb13 => ?_) (fun hb13 => ?_)
        ·have h := cT hb13 h
         refine evY_sound (f := 2) ?_; simp [-splice, f1, f2, b_b1, b_b2, ld_33_0_3]
         refine Stk.gen (fun t H n => t 1 = .own b1 0 ∧ t 2 = .own b2 0 ∧ t 6 = .sc (.int .i64 a0.Kind) ∧ t 46 = .sc (.bool (a0.Kind == 6)) ∧ H b1 = some (.cells (c33 a0) 33) ∧ b1 < n ∧ H b2 = some (.cells (c153 (ast_shape.mk false false false 0 0 false)) 153) ∧ b2 < n ∧ b1 ≠ b2) (by and_intros <;> first | assumption | simp [-splice, f1, f2, b_b1, b_b2, ld_33_0_3]) ?_
         clear f1 f2 b_b1 l_b1 b_b2 l_b2 d_b1_b2
         rintro t H n ⟨f1, f2, f6, f46, b_b1, l_b1, b_b2, l_b2, d_b1_b2⟩
         refine Stk.ov (vop_build T.t153 rfl rfl (cs := c153 (ast_shape.mk false false false 0 0 false)) (cs' := c153 (ast_shape.mk true false false 2 2 false)) rfl (.cons rfl rfl rfl rfl rfl (rfl) (by rw [len153]; decide) (st_153_0_4 _ _) (.cons rfl rfl rfl rfl rfl (rfl) (by rw [len153]; decide) (st_153_3_3 _ _) (.cons rfl rfl rfl rfl rfl (rfl) (by rw [len153]; decide) (st_153_4_3 _ _) (.nil))))) (by simp [f1, f2, f6, f46]) rfl (fun t' ht' => ?_)
         refine Stk.gen (fun t H n => t 1 = .own b1 0 ∧ t 2 = .own b2 0 ∧ t 48 = .agg (c153 (ast_shape.mk true false false 2 2 false)) ∧ H b1 = some (.cells (c33 a0) 33) ∧ b1 < n ∧ H b2 = some (.cells (c153 (ast_shape.mk false false false 0 0 false)) 153) ∧ b2 < n ∧ b1 ≠ b2) ⟨by simp [ht', f1], by simp [ht', f2], by simp [ht'], b_b1, l_b1, b_b2, l_b2, d_b1_b2⟩ ?_
         clear f1 f2 f6 f46 b_b1 l_b1 b_b2 l_b2 d_b1_b2 ht' t'
         rintro t H n ⟨f1, f2, f48, b_b1, l_b1, b_b2, l_b2, d_b1_b2⟩
         obtain ⟨x14, hx14, h⟩ := bnd h
         refine evY_sound (f := 2) ?_; simp [-splice, f1, f2, f48, b_b1, b_b2, ld_33_5_9]
         refine Stk.cv (g := 112) (args := [.sc (.string a0.Name)]) (args' := [.sc (.string a0.Name)]) (v := .sc (.bool x14)) [] (ok_ast_small F _ _ hx14) (by simp [-splice, f1, f2, f48, b_b1, b_b2, ld_33_5_9]) rfl rfl (by simp [-splice, f1, f2, f48, b_b1, b_b2, ld_33_5_9]) (.cons (.free (rfl)) (.nil)) (.inl ⟨rfl, rfl⟩) (fun t' ht' => ?_)
         subst ht'
         refine Stk.gen (fun t H n => t 2 = .own b2 0 ∧ t 48 = .agg (c153 (ast_shape.mk true false false 2 2 false)) ∧ t 51 = .sc (.bool x14) ∧ H b2 = some (.cells (c153 (ast_shape.mk false false false 0 0 false)) 153) ∧ b2 < n) (by and_intros <;> first | assumption | simp [-splice, f1, f2, f48, b_b1, b_b2, ld_33_5_9]) ?_
         clear f1 f2 f48 b_b1 l_b1 b_b2 l_b2 d_b1_b2
         rintro t H n ⟨f2, f48, f51, b_b2, l_b2⟩
         refine Stk.om (mop_store (z := 6) rfl f2 b_b2 f48 (len153 _) (by rw [len153]; decide) (ok153 _) (st_153_0_153 _ _)) (by simp [f2, f48, f51]) rfl (fun t' ht' => ?_)
         refine Stk.gen (fun t H n => t 2 = .own b2 0 ∧ t 51 = .sc (.bool x14) ∧ H b2 = some (.cells (c153 (ast_shape.mk true false false 2 2 false)) 153) ∧ b2 < n) ⟨by simp [ht', f2], by simp [ht', f51], upd_same _ _ _, l_b2⟩ ?_
         clear f2 f48 f51 b_b2 l_b2 ht' t'
         rintro t H n ⟨f2, f51, b_b2, l_b2⟩
         refine evY_sound (f := 3) ?_; simp [-splice, f2, f51, b_b2]
         have hq := Option.some.inj h; subst hq
         exact (hr _ _ _ (.tup [.agg (c153 (ast_shape.mk true false false 2 2 false)), .sc (.bool x14)]) ([]) (by simp [-splice, f2, f51, b_b2, ld_153_0_153]) (.inr (.inr (.tup (.cons (.free (fr153 _)) (.cons (.free (rfl)) (.nil))))))).1
        ·have h := cF hb13 h
         refine evY_sound (f := 5) ?_; simp [-splice, f1, f2, b_b1, b_b2, ld_33_0_3]
         refine Stk.cond (a0.Kind == 7) (by simp [-splice, f1, f2, b_b1, b_b2, ld_33_0_3]) (fun hb15 => ?_) (fun hb15 => ?_)
         ·have h := cT hb15 h
          refine evY_sound (f := 2) ?_; simp [-splice, f1, f2, b_b1, b_b2, ld_33_0_3]
          refine Stk.gen (fun t H n => t 1 = .own b1 0 ∧ t 2 = .own b2 0 ∧ t 6 = .sc (.int .i64 a0.Kind) ∧ t 52 = .sc (.bool (a0.Kind == 7)) ∧ H b1 = some (.cells (c33 a0) 33) ∧ b1 < n ∧ H b2 = some (.cells (c153 (ast_shape.mk false false false 0 0 false)) 153) ∧ b2 < n ∧ b1 ≠ b2) (by and_intros <;> first | assumption | simp [-splice, f1, f2, b_b1, b_b2, ld_33_0_3]) ?_
          clear f1 f2 b_b1 l_b1 b_b2 l_b2 d_b1_b2
          rintro t H n ⟨f1, f2, f6, f52, b_b1, l_b1, b_b2, l_b2, d_b1_b2⟩
          refine Stk.ov (vop_build T.t153 rfl rfl (cs := c153 (ast_shape.mk false false false 0 0 false)) (cs' := c153 (ast_shape.mk false false false 3 3 false)) rfl (.cons rfl rfl rfl rfl rfl (rfl) (by rw [len153]; decide) (st_153_3_3 _ _) (.cons rfl rfl rfl rfl rfl (rfl) (by rw [len153]; decide) (st_153_4_3 _ _) (.nil)))) (by simp [f1, f2, f6, f52]) rfl (fun t' ht' => ?_)
          refine Stk.gen (fun t H n => t 2 = .own b2 0 ∧ t 54 = .agg (c153 (ast_shape.mk false false false 3 3 false)) ∧ H b2 = some (.cells (c153 (ast_shape.mk false false false 0 0 false)) 153) ∧ b2 < n) ⟨by simp [ht', f2], by simp [ht'], b_b2, l_b2⟩ ?_
          clear f1 f2 f6 f52 b_b1 l_b1 b_b2 l_b2 d_b1_b2 ht' t'
          rintro t H n ⟨f2, f54, b_b2, l_b2⟩
          refine Stk.om (mop_store (z := 6) rfl f2 b_b2 f54 (len153 _) (by rw [len153]; decide) (ok153 _) (st_153_0_153 _ _)) (by simp [f2, f54]) rfl (fun t' ht' => ?_)
          refine Stk.gen (fun t H n => t 2 = .own b2 0 ∧ H b2 = some (.cells (c153 (ast_shape.mk false false false 3 3 false)) 153) ∧ b2 < n) ⟨by simp [ht', f2], upd_same _ _ _, l_b2⟩ ?_
          clear f2 f54 b_b2 l_b2 ht' t'
          rintro t H n ⟨f2, b_b2, l_b2⟩
          refine evY_sound (f := 3) ?_; simp [-splice, f2, b_b2]
          have hq := Option.some.inj h; subst hq
          exact (hr _ _ _ (.tup [.agg (c153 (ast_shape.mk false false false 3 3 false)), .sc (.bool true)]) ([]) (by simp [-splice, f2, b_b2, ld_153_0_153]) (.inr (.inr (.tup (.cons (.free (fr153 _)) (.cons (.free (rfl)) (.nil))))))).1
         ·have h := cF hb15 h
          refine evY_sound (f := 5) ?_; simp [-splice, f1, f2, b_b1, b_b2, ld_33_0_3]
          refine Stk.cond (a0.Kind == 8) (by simp [-splice, f1, f2, b_b1, b_b2, ld_33_0_3]) (fun hb16 => ?_) (fun hb16 => ?_)
          ·have h := cT hb16 h
           refine evY_sound (f := 2) ?_; simp [-splice, f1, f2, b_b1, b_b2, ld_33_0_3]
           refine Stk.gen (fun t H n => t 1 = .own b1 0 ∧ t 2 = .own b2 0 ∧ t 6 = .sc (.int .i64 a0.Kind) ∧ t 55 = .sc (.bool (a0.Kind == 8)) ∧ H b1 = some (.cells (c33 a0) 33) ∧ b1 < n ∧ H b2 = some (.cells (c153 (ast_shape.mk false false false 0 0 false)) 153) ∧ b2 < n ∧ b1 ≠ b2) (by and_intros <;> first | assumption | simp [-splice, f1, f2, b_b1, b_b2, ld_33_0_3]) ?_
           clear f1 f2 b_b1 l_b1 b_b2 l_b2 d_b1_b2
           rintro t H n ⟨f1, f2, f6, f55, b_b1, l_b1, b_b2, l_b2, d_b1_b2⟩
           refine Stk.ov (vop_build T.t153 rfl rfl (cs := c153 (ast_shape.mk false false false 0 0 false)) (cs' := c153 (ast_shape.mk false false false 1 1 true)) rfl (.cons rfl rfl rfl rfl rfl (rfl) (by rw [len153]; decide) (st_153_3_3 _ _) (.cons rfl rfl rfl rfl rfl (rfl) (by rw [len153]; decide) (st_153_4_3 _ _) (.cons rfl rfl rfl rfl rfl (rfl) (by rw [len153]; decide) (st_153_5_4 _ _) (.nil))))) (by simp [f1, f2, f6, f55]) rfl (fun t' ht' => ?_)
           refine Stk.gen (fun t H n => t 2 = .own b2 0 ∧ t 57 = .agg (c153 (ast_shape.mk false false false 1 1 true)) ∧ H b2 = some (.cells (c153 (ast_shape.mk false false false 0 0 false)) 153) ∧ b2 < n) ⟨by simp [ht', f2], by simp [ht'], b_b2, l_b2⟩ ?_
           clear f1 f2 f6 f55 b_b1 l_b1 b_b2 l_b2 d_b1_b2 ht' t'
           rintro t H n ⟨f2, f57, b_b2, l_b2⟩
           refine Stk.om (mop_store (z := 6) rfl f2 b_b2 f57 (len153 _) (by rw [len153]; decide) (ok153 _) (st_153_0_153 _ _)) (by simp [f2, f57]) rfl (fun t' ht' => ?_)
           refine Stk.gen (fun t H n => t 2 = .own b2 0 ∧ H b2 = some (.cells (c153 (ast_shape.mk false false false 1 1 true)) 153) ∧ b2 < n) ⟨by simp [ht', f2], upd_same _ _ _, l_b2⟩ ?_
           clear f2 f57 b_b2 l_b2 ht' t'
           rintro t H n ⟨f2, b_b2, l_b2⟩
           refine evY_sound (f := 3) ?_; simp [-splice, f2, b_b2]
           have hq := Option.some.inj h; subst hq
           exact (hr _ _ _ (.tup [.agg (c153 (ast_shape.mk false false false 1 1 true)), .sc (.bool true)]) ([]) (by simp [-splice, f2, b_b2, ld_153_0_153]) (.inr (.inr (.tup (.cons (.free (fr153 _)) (.cons (.free (rfl)) (.nil))))))).1
          ·have h := cF hb16 h
           refine evY_sound (f := 5) ?_; simp [-splice, f1, f2, b_b1, b_b2, ld_33_0_3]
           refine Stk.cond (a0.Kind == 9) (by simp [-splice, f1, f2, b_b1, b_b2, ld_33_0_3]) (fun hb17 => ?_) (fun hb17 => ?_)
           ·have h := cT hb17 h
            obtain ⟨x18, hx18, h⟩ := bnd h
            refine evY_sound (f := 4) ?_; simp [-splice, f1, f2, b_b1, b_b2, ld_33_0_3, ld_33_3_2]
            refine Stk.cv (g := 176) (args := [.sc (.int .i64 a0.Num)]) (args' := [.sc (.int .i64 a0.Num)]) (v := .sc (.int .i64 x18)) [] (ok_ast_args F _ _ hx18) (by simp [-splice, f1, f2, b_b1, b_b2, ld_33_0_3, ld_33_3_2]) rfl rfl (by simp [-splice, f1, f2, b_b1, b_b2, ld_33_0_3, ld_33_3_2]) (.cons (.free (rfl)) (.nil)) (.inl ⟨rfl, rfl⟩) (fun t' ht' => ?_)
            subst ht'
            refine evY_sound (f := 3) ?_; simp [-splice, f1, f2, b_b1, b_b2, ld_33_0_3, ld_33_3_2]
            refine Stk.gen (fun t H n => t 1 = .own b1 0 ∧ t 2 = .own b2 0 ∧ t 4 = .sc (.int .i64 x18) ∧ H b1 = some (.cells (c33 a0) 33) ∧ b1 < n ∧ H b2 = some (.cells (c153 (ast_shape.mk false false false 0 0 false)) 153) ∧ b2 < n ∧ b1 ≠ b2) (by and_intros <;> first | assumption | simp [-splice, f1, f2, b_b1, b_b2, ld_33_0_3, ld_33_3_2]) ?_
            clear f1 f2 b_b1 l_b1 b_b2 l_b2 d_b1_b2
            rintro t H n ⟨f1, f2, f4, b_b1, l_b1, b_b2, l_b2, d_b1_b2⟩
            obtain ⟨n0, hn0⟩ : ∃ m, m = n := ⟨n, rfl⟩
            have ln0 : n0 ≤ n := Nat.le_of_eq hn0
            refine Stk.rgD [.rd [], .rd [], .rd [], .rd [], .rd [b1], .rd [], .rd [], .rd [], .rd [b1], .rd [], .rd [], .mem [b2] n0, .rd []] none (by kernel_rfl) (drawOk2_ren [b1, b2] (by simp [d_b1_b2]) n0 [.rd [], .rd [], .rd [], .rd [], .rd [0], .rd [], .rd [], .rd [], .rd [0], .rd [], .rd [], .mem [1] 0, .rd []] rfl (by rfl)) rfl (by simp [below, hn0, l_b1, hn0, l_b2]) rfl ?_
            refine evY_sound (f := 2) ?_; simp [-splice, f1, f2, f4, b_b1, b_b2]
            refine Stk.gen (fun t H n => t 1 = .own b1 0 ∧ t 2 = .own b2 0 ∧ t 63 = .sc (.int .i64 x18) ∧ t 64 = .sc (.int .i64 x18) ∧ H b1 = some (.cells (c33 a0) 33) ∧ b1 < n ∧ H b2 = some (.cells (c153 (ast_shape.mk false false false 0 0 false)) 153) ∧ b2 < n ∧ b1 ≠ b2 ∧ n0 ≤ n) (by and_intros <;> first | assumption | simp [-splice, f1, f2, f4, b_b1, b_b2]) ?_
            clear f1 f2 f4 b_b1 l_b1 b_b2 l_b2 d_b1_b2 ln0
            rintro t H n ⟨f1, f2, f63, f64, b_b1, l_b1, b_b2, l_b2, d_b1_b2, ln0⟩
            refine Stk.ovD rfl (by simp [f1, f2, f63, f64]) rfl (vop_build T.t153 rfl rfl (cs := c153 (ast_shape.mk false false false 0 0 false)) (cs' := c153 (ast_shape.mk false true false x18 x18 false)) rfl (.cons rfl rfl rfl rfl rfl (rfl) (by rw [len153]; decide) (st_153_1_4 _ _) (.cons f63 rfl rfl rfl rfl (rfl) (by rw [len153]; decide) (st_153_3_3 _ _) (.cons f64 rfl rfl rfl rfl (rfl) (by rw [len153]; decide) (st_153_4_3 _ _) (.nil))))) (by simp [f1, f2, f63, f64]) rfl (fun t' ht' => ?_)
            refine Stk.gen (fun t H n => t 1 = .own b1 0 ∧ t 2 = .own b2 0 ∧ t 65 = .agg (c153 (ast_shape.mk false true false x18 x18 false)) ∧ H b1 = some (.cells (c33 a0) 33) ∧ b1 < n ∧ H b2 = some (.cells (c153 (ast_shape.mk false false false 0 0 false)) 153) ∧ b2 < n ∧ b1 ≠ b2 ∧ n0 ≤ n) ⟨by simp [ht', f1], by simp [ht', f2], by simp [ht'], b_b1, l_b1, b_b2, l_b2, d_b1_b2, ln0⟩ ?_
            clear f1 f2 f63 f64 b_b1 l_b1 b_b2 l_b2 d_b1_b2 ln0 ht' t'
            rintro t H n ⟨f1, f2, f65, b_b1, l_b1, b_b2, l_b2, d_b1_b2, ln0⟩
            refine evY_sound (f := 4) ?_; simp [-splice, f1, f2, f65, b_b1, b_b2, ld_33_3_2]
            refine Stk.gen (fun t H n => t 1 = .own b1 0 ∧ t 2 = .own b2 0 ∧ t 65 = .agg (c153 (ast_shape.mk false true false x18 x18 false)) ∧ t 69 = .sc (.bool (decide (0 ≤ a0.Num))) ∧ H b1 = some (.cells (c33 a0) 33) ∧ b1 < n ∧ H b2 = some (.cells (c153 (ast_shape.mk false false false 0 0 false)) 153) ∧ b2 < n ∧ b1 ≠ b2 ∧ n0 ≤ n) (by and_intros <;> first | assumption | simp [-splice, f1, f2, f65, b_b1, b_b2, ld_33_3_2]) ?_
            clear f1 f2 f65 b_b1 l_b1 b_b2 l_b2 d_b1_b2 ln0
            rintro t H n ⟨f1, f2, f65, f69, b_b1, l_b1, b_b2, l_b2, d_b1_b2, ln0⟩
            refine Stk.jd 4 (fun t H n => t 2 = .own b2 0 ∧ t 65 = .agg (c153 (ast_shape.mk false true false x18 x18 false)) ∧ t 73 = .sc (.bool ((decide (0 ≤ a0.Num)) && (decide (a0.Num < 12)))) ∧ H b2 = some (.cells (c153 (ast_shape.mk false false false 0 0 false)) 153) ∧ b2 < n ∧ n0 ≤ n) (fun J2 hJ2 => ?_) ?_
            · rcases Bool.eq_false_or_eq_true (decide (0 ≤ a0.Num)) with hb2 | hb2
              · rw [hb2] at f69
                refine evY_sound (f := 5) ?_; simp [-splice, f1, f2, f65, f69, b_b1, b_b2, ld_33_3_2]
                refine Stk.gen (fun t H n => t 2 = .own b2 0 ∧ t 65 = .agg (c153 (ast_shape.mk false true false x18 x18 false)) ∧ t 73 = .sc (.bool (decide (a0.Num < 12))) ∧ H b2 = some (.cells (c153 (ast_shape.mk false false false 0 0 false)) 153) ∧ b2 < n ∧ n0 ≤ n) (by and_intros <;> first | assumption | simp [-splice, f1, f2, f65, f69, b_b1, b_b2, ld_33_3_2]) ?_
                clear f1 f2 f65 f69 b_b1 l_b1 b_b2 l_b2 d_b1_b2 ln0
                rintro t H n ⟨f2, f65, f73, b_b2, l_b2, ln0⟩
                exact Stk.ln 0 (by decide) (hJ2 _ _ _ ⟨f2, f65, f73.trans (congrArg (fun q => AV.sc (.bool q)) (by rw [hb2]; rfl)), b_b2, l_b2, ln0⟩)
              · rw [hb2] at f69
                refine evY_sound (f := 5) ?_; simp [-splice, f1, f2, f65, f69, b_b1, b_b2]
                refine Stk.gen (fun t H n => t 2 = .own b2 0 ∧ t 65 = .agg (c153 (ast_shape.mk false true false x18 x18 false)) ∧ t 73 = .sc (.bool false) ∧ H b2 = some (.cells (c153 (ast_shape.mk false false false 0 0 false)) 153) ∧ b2 < n ∧ n0 ≤ n) (by and_intros <;> first | assumption | simp [-splice, f1, f2, f65, f69, b_b1, b_b2]) ?_
                clear f1 f2 f65 f69 b_b1 l_b1 b_b2 l_b2 d_b1_b2 ln0
                rintro t H n ⟨f2, f65, f73, b_b2, l_b2, ln0⟩
                exact Stk.ln 0 (by decide) (hJ2 _ _ _ ⟨f2, f65, f73.trans (congrArg (fun q => AV.sc (.bool q)) (by rw [hb2]; rfl)), b_b2, l_b2, ln0⟩)
            clear f1 f2 f65 f69 b_b1 l_b1 b_b2 l_b2 d_b1_b2 ln0
            rintro t H n ⟨f2, f65, f73, b_b2, l_b2, ln0⟩
            refine Stk.omD (S := [b2]) (b := n0) rfl (fun j hj hm => upd_ne _ _ (by simpa using hm)) rfl (mop_store (z := 6) rfl f2 b_b2 f65 (len153 _) (by rw [len153]; decide) (ok153 _) (st_153_0_153 _ _)) (by simp [f2, f65, f73]) rfl (fun t' ht' => ?_)
            refine Stk.gen (fun t H n => t 2 = .own b2 0 ∧ t 73 = .sc (.bool ((decide (0 ≤ a0.Num)) && (decide (a0.Num < 12)))) ∧ H b2 = some (.cells (c153 (ast_shape.mk false true false x18 x18 false)) 153) ∧ b2 < n ∧ n0 ≤ n) ⟨by simp [ht', f2], by simp [ht', f73], upd_same _ _ _, l_b2, ln0⟩ ?_
            clear f2 f65 f73 b_b2 l_b2 ln0 ht' t'
            rintro t H n ⟨f2, f73, b_b2, l_b2, ln0⟩
            refine evY_sound (f := 3) ?_; simp [-splice, f2, f73, b_b2]
            have hq := Option.some.inj h; subst hq
            exact (hr _ _ _ (.tup [.agg (c153 (ast_shape.mk false true false x18 x18 false)), .sc (.bool ((decide (0 ≤ a0.Num)) && (decide (a0.Num < 12))))]) ([]) (by simp [-splice, f2, f73, b_b2, ld_153_0_153]) (.inr (.inr (.tup (.cons (.free (fr153 _)) (.cons (.free (rfl)) (.nil))))))).1
           ·have h := cF hb17 h
            refine evY_sound (f := 5) ?_; simp [-splice, f1, f2, b_b1, b_b2, ld_33_0_3]
            refine Stk.cond (a0.Kind == 10) (by simp [-splice, f1, f2, b_b1, b_b2, ld_33_0_3]) (fun hb19 => ?_) (fun hb19 => ?_)
            ·have h := cT hb19 h
             refine evY_sound (f := 1) ?_; simp [-splice, f1, f2, b_b1, b_b2, ld_33_0_3]
             refine Stk.gen (fun t H n => t 1 = .own b1 0 ∧ t 2 = .own b2 0 ∧ t 74 = .sc (.bool (a0.Kind == 10)) ∧ H b1 = some (.cells (c33 a0) 33) ∧ b1 < n ∧ H b2 = some (.cells (c153 (ast_shape.mk false false false 0 0 false)) 153) ∧ b2 < n ∧ b1 ≠ b2) (by and_intros <;> first | assumption | simp [-splice, f1, f2, b_b1, b_b2, ld_33_0_3]) ?_
             clear f1 f2 b_b1 l_b1 b_b2 l_b2 d_b1_b2
             rintro t H n ⟨f1, f2, f74, b_b1, l_b1, b_b2, l_b2, d_b1_b2⟩
             obtain ⟨n0, hn0⟩ : ∃ m, m = n := ⟨n, rfl⟩
             have ln0 : n0 ≤ n := Nat.le_of_eq hn0
             refine Stk.rgD [.rd [], .rd [], .rd [b1], .rd [], .rd [], .rd [], .rd [b1], .rd [], .rd [], .rd [], .rd [], .rd [b1], .rd [], .rd [], .mem [b2] n0, .rd []] none (by kernel_rfl) (drawOk2_ren [b1, b2] (by simp [d_b1_b2]) n0 [.rd [], .rd [], .rd [0], .rd [], .rd [], .rd [], .rd [0], .rd [], .rd [], .rd [], .rd [], .rd [0], .rd [], .rd [], .mem [1] 0, .rd []] rfl (by rfl)) rfl (by simp [below, hn0, l_b1, hn0, l_b2]) rfl ?_
             refine Stk.ovD rfl (by simp [f1, f2, f74]) rfl (vop_build T.t153 rfl rfl (cs := c153 (ast_shape.mk false false false 0 0 false)) (cs' := c153 (ast_shape.mk true true false 2 2 false)) rfl (.cons rfl rfl rfl rfl rfl (rfl) (by rw [len153]; decide) (st_153_0_4 _ _) (.cons rfl rfl rfl rfl rfl (rfl) (by rw [len153]; decide) (st_153_1_4 _ _) (.cons rfl rfl rfl rfl rfl (rfl) (by rw [len153]; decide) (st_153_3_3 _ _) (.cons rfl rfl rfl rfl rfl (rfl) (by rw [len153]; decide) (st_153_4_3 _ _) (.nil)))))) (by simp [f1, f2, f74]) rfl (fun t' ht' => ?_)
             refine Stk.gen (fun t H n => t 1 = .own b1 0 ∧ t 2 = .own b2 0 ∧ t 76 = .agg (c153 (ast_shape.mk true true false 2 2 false)) ∧ H b1 = some (.cells (c33 a0) 33) ∧ b1 < n ∧ H b2 = some (.cells (c153 (ast_shape.mk false false false 0 0 false)) 153) ∧ b2 < n ∧ b1 ≠ b2 ∧ n0 ≤ n) ⟨by simp [ht', f1], by simp [ht', f2], by simp [ht'], b_b1, l_b1, b_b2, l_b2, d_b1_b2, ln0⟩ ?_
             clear f1 f2 f74 b_b1 l_b1 b_b2 l_b2 d_b1_b2 ln0 ht' t'
             rintro t H n ⟨f1, f2, f76, b_b1, l_b1, b_b2, l_b2, d_b1_b2, ln0⟩
             obtain ⟨x20, hx20, h⟩ := bnd h
             refine evY_sound (f := 2) ?_; simp [-splice, f1, f2, f76, b_b1, b_b2, ld_33_5_9]
             refine Stk.cvD (g := 112) (args := [.sc (.string a0.Name)]) (args' := [.sc (.string a0.Name)]) (v := .sc (.bool x20)) [] (ok_ast_small F _ _ hx20) rfl (by simp) rfl (by simp [-splice, f1, f2, f76, b_b1, b_b2, ld_33_5_9]) rfl rfl (by simp [-splice, f1, f2, f76, b_b1, b_b2, ld_33_5_9]) (.cons (.free (rfl)) (.nil)) (.inl ⟨rfl, rfl⟩) (fun t' ht' => ?_)
             subst ht'
             refine evY_sound (f := 1) ?_; simp [-splice, f1, f2, f76, b_b1, b_b2, ld_33_5_9]
             refine Stk.gen (fun t H n => t 1 = .own b1 0 ∧ t 2 = .own b2 0 ∧ t 76 = .agg (c153 (ast_shape.mk true true false 2 2 false)) ∧ t 80 = .sc (.bool x20) ∧ H b1 = some (.cells (c33 a0) 33) ∧ b1 < n ∧ H b2 = some (.cells (c153 (ast_shape.mk false false false 0 0 false)) 153) ∧ b2 < n ∧ b1 ≠ b2 ∧ n0 ≤ n) (by and_intros <;> first | assumption | simp [-splice, f1, f2, f76, b_b1, b_b2, ld_33_5_9]) ?_
             clear f1 f2 f76 b_b1 l_b1 b_b2 l_b2 d_b1_b2 ln0
             rintro t H n ⟨f1, f2, f76, f80, b_b1, l_b1, b_b2, l_b2, d_b1_b2, ln0⟩
             refine Stk.jd 4 (fun t H n => t 1 = .own b1 0 ∧ t 2 = .own b2 0 ∧ t 76 = .agg (c153 (ast_shape.mk true true false 2 2 false)) ∧ t 84 = .sc (.bool (x20 && (decide (0 ≤ a0.Num)))) ∧ H b1 = some (.cells (c33 a0) 33) ∧ b1 < n ∧ H b2 = some (.cells (c153 (ast_shape.mk false false false 0 0 false)) 153) ∧ b2 < n ∧ b1 ≠ b2 ∧ n0 ≤ n) (fun J3 hJ3 => ?_) ?_
             · rcases Bool.eq_false_or_eq_true x20 with hb3 | hb3
               · rw [hb3] at f80
                 refine evY_sound (f := 5) ?_; simp [-splice, f1, f2, f76, f80, b_b1, b_b2, ld_33_3_2]
                 refine Stk.gen (fun t H n => t 1 = .own b1 0 ∧ t 2 = .own b2 0 ∧ t 76 = .agg (c153 (ast_shape.mk true true false 2 2 false)) ∧ t 84 = .sc (.bool (decide (0 ≤ a0.Num))) ∧ H b1 = some (.cells (c33 a0) 33) ∧ b1 < n ∧ H b2 = some (.cells (c153 (ast_shape.mk false false false 0 0 false)) 153) ∧ b2 < n ∧ b1 ≠ b2 ∧ n0 ≤ n) (by and_intros <;> first | assumption | simp [-splice, f1, f2, f76, f80, b_b1, b_b2, ld_33_3_2]) ?_
                 clear f1 f2 f76 f80 b_b1 l_b1 b_b2 l_b2 d_b1_b2 ln0
                 rintro t H n ⟨f1, f2, f76, f84, b_b1, l_b1, b_b2, l_b2, d_b1_b2, ln0⟩
                 exact Stk.ln 0 (by decide) (hJ3 _ _ _ ⟨f1, f2, f76, f84.trans (congrArg (fun q => AV.sc (.bool q)) (by rw [hb3]; rfl)), b_b1, l_b1, b_b2, l_b2, d_b1_b2, ln0⟩)
               · rw [hb3] at f80
                 refine evY_sound (f := 5) ?_; simp [-splice, f1, f2, f76, f80, b_b1, b_b2]
                 refine Stk.gen (fun t H n => t 1 = .own b1 0 ∧ t 2 = .own b2 0 ∧ t 76 = .agg (c153 (ast_shape.mk true true false 2 2 false)) ∧ t 84 = .sc (.bool false) ∧ H b1 = some (.cells (c33 a0) 33) ∧ b1 < n ∧ H b2 = some (.cells (c153 (ast_shape.mk false false false 0 0 false)) 153) ∧ b2 < n ∧ b1 ≠ b2 ∧ n0 ≤ n) (by and_intros <;> first | assumption | simp [-splice, f1, f2, f76, f80, b_b1, b_b2]) ?_
                 clear f1 f2 f76 f80 b_b1 l_b1 b_b2 l_b2 d_b1_b2 ln0
                 rintro t H n ⟨f1, f2, f76, f84, b_b1, l_b1, b_b2, l_b2, d_b1_b2, ln0⟩
                 exact Stk.ln 0 (by decide) (hJ3 _ _ _ ⟨f1, f2, f76, f84.trans (congrArg (fun q => AV.sc (.bool q)) (by rw [hb3]; rfl)), b_b1, l_b1, b_b2, l_b2, d_b1_b2, ln0⟩)
             clear f1 f2 f76 f80 b_b1 l_b1 b_b2 l_b2 d_b1_b2 ln0
             rintro t H n ⟨f1, f2, f76, f84, b_b1, l_b1, b_b2, l_b2, d_b1_b2, ln0⟩
             refine evY_sound (f := 1) ?_; simp [-splice, f1, f2, f76, f84, b_b1, b_b2]
             refine Stk.gen (fun t H n => t 1 = .own b1 0 ∧ t 2 = .own b2 0 ∧ t 76 = .agg (c153 (ast_shape.mk true true false 2 2 false)) ∧ t 85 = .sc (.bool (x20 && (decide (0 ≤ a0.Num)))) ∧ H b1 = some (.cells (c33 a0) 33) ∧ b1 < n ∧ H b2 = some (.cells (c153 (ast_shape.mk false false false 0 0 false)) 153) ∧ b2 < n ∧ b1 ≠ b2 ∧ n0 ≤ n) (by and_intros <;> first | assumption | simp [-splice, f1, f2, f76, f84, b_b1, b_b2]) ?_
             clear f1 f2 f76 f84 b_b1 l_b1 b_b2 l_b2 d_b1_b2 ln0
             rintro t H n ⟨f1, f2, f76, f85, b_b1, l_b1, b_b2, l_b2, d_b1_b2, ln0⟩
             refine Stk.jd 4 (fun t H n => t 2 = .own b2 0 ∧ t 76 = .agg (c153 (ast_shape.mk true true false 2 2 false)) ∧ t 89 = .sc (.bool ((x20 && (decide (0 ≤ a0.Num))) && (decide (a0.Num ≤ 1000)))) ∧ H b2 = some (.cells (c153 (ast_shape.mk false false false 0 0 false)) 153) ∧ b2 < n ∧ n0 ≤ n) (fun J4 hJ4 => ?_) ?_
             · rcases Bool.eq_false_or_eq_true (x20 && (decide (0 ≤ a0.Num))) with hb4 | hb4
               · rw [hb4] at f85
                 refine evY_sound (f := 5) ?_; simp [-splice, f1, f2, f76, f85, b_b1, b_b2, ld_33_3_2]
                 refine Stk.gen (fun t H n => t 2 = .own b2 0 ∧ t 76 = .agg (c153 (ast_shape.mk true true false 2 2 false)) ∧ t 89 = .sc (.bool (decide (a0.Num ≤ 1000))) ∧ H b2 = some (.cells (c153 (ast_shape.mk false false false 0 0 false)) 153) ∧ b2 < n ∧ n0 ≤ n) (by and_intros <;> first | assumption | simp [-splice, f1, f2, f76, f85, b_b1, b_b2, ld_33_3_2]) ?_
                 clear f1 f2 f76 f85 b_b1 l_b1 b_b2 l_b2 d_b1_b2 ln0
                 rintro t H n ⟨f2, f76, f89, b_b2, l_b2, ln0⟩
                 exact Stk.ln 0 (by decide) (hJ4 _ _ _ ⟨f2, f76, f89.trans (congrArg (fun q => AV.sc (.bool q)) (by rw [hb4]; rfl)), b_b2, l_b2, ln0⟩)
               · rw [hb4] at f85
                 refine evY_sound (f := 5) ?_; simp [-splice, f1, f2, f76, f85, b_b1, b_b2]
                 refine Stk.gen (fun t H n => t 2 = .own b2 0 ∧ t 76 = .agg (c153 (ast_shape.mk true true false 2 2 false)) ∧ t 89 = .sc (.bool false) ∧ H b2 = some (.cells (c153 (ast_shape.mk false false false 0 0 false)) 153) ∧ b2 < n ∧ n0 ≤ n) (by and_intros <;> first | assumption | simp [-splice, f1, f2, f76, f85, b_b1, b_b2]) ?_
                 clear f1 f2 f76 f85 b_b1 l_b1 b_b2 l_b2 d_b1_b2 ln0
                 rintro t H n ⟨f2, f76, f89, b_b2, l_b2, ln0⟩
                 exact Stk.ln 0 (by decide) (hJ4 _ _ _ ⟨f2, f76, f89.trans (congrArg (fun q => AV.sc (.bool q)) (by rw [hb4]; rfl)), b_b2, l_b2, ln0⟩)
             clear f1 f2 f76 f85 b_b1 l_b1 b_b2 l_b2 d_b1_b2 ln0
             rintro t H n ⟨f2, f76, f89, b_b2, l_b2, ln0⟩
             refine Stk.omD (S := [b2]) (b := n0) rfl (fun j hj hm => upd_ne _ _ (by simpa using hm)) rfl (mop_store (z := 6) rfl f2 b_b2 f76 (len153 _) (by rw [len153]; decide) (ok153 _) (st_153_0_153 _ _)) (by simp [f2, f76, f89]) rfl (fun t' ht' => ?_)
             refine Stk.gen (fun t H n => t 2 = .own b2 0 ∧ t 89 = .sc (.bool ((x20 && (decide (0 ≤ a0.Num))) && (decide (a0.Num ≤ 1000)))) ∧ H b2 = some (.cells (c153 (ast_shape.mk true true false 2 2 false)) 153) ∧ b2 < n ∧ n0 ≤ n) ⟨by simp [ht', f2], by simp [ht', f89], upd_same _ _ _, l_b2, ln0⟩ ?_
             clear f2 f76 f89 b_b2 l_b2 ln0 ht' t'
             rintro t H n ⟨f2, f89, b_b2, l_b2, ln0⟩
             refine evY_sound (f := 3) ?_; simp [-splice, f2, f89, b_b2]
             have hq := Option.some.inj h; subst hq
             exact (hr _ _ _ (.tup [.agg (c153 (ast_shape.mk true true false 2 2 false)), .sc (.bool ((x20 && (decide (0 ≤ a0.Num))) && (decide (a0.Num ≤ 1000))))]) ([]) (by simp [-splice, f2, f89, b_b2, ld_153_0_153]) (.inr (.inr (.tup (.cons (.free (fr153 _)) (.cons (.free (rfl)) (.nil))))))).1
            ·have h := cF hb19 h
             refine evY_sound (f := 4) ?_; simp [-splice, f1, f2, b_b1, b_b2, ld_33_0_3]
             refine Stk.gen (fun t H n => t 1 = .own b1 0 ∧ t 2 = .own b2 0 ∧ t 74 = .sc (.bool (a0.Kind == 10)) ∧ H b1 = some (.cells (c33 a0) 33) ∧ b1 < n ∧ H b2 = some (.cells (c153 (ast_shape.mk false false false 0 0 false)) 153) ∧ b2 < n ∧ b1 ≠ b2) (by and_intros <;> first | assumption | simp [-splice, f1, f2, b_b1, b_b2, ld_33_0_3]) ?_
             clear f1 f2 b_b1 l_b1 b_b2 l_b2 d_b1_b2
             rintro t H n ⟨f1, f2, f74, b_b1, l_b1, b_b2, l_b2, d_b1_b2⟩
             refine Stk.ov (vop_build T.t153 rfl rfl (cs := c153 (ast_shape.mk false false false 0 0 false)) (cs' := c153 (ast_shape.mk false false false 0 0 false)) rfl (.nil)) (by simp [f1, f2, f74]) rfl (fun t' ht' => ?_)
             refine Stk.gen (fun t H n => t 2 = .own b2 0 ∧ t 90 = .agg (c153 (ast_shape.mk false false false 0 0 false)) ∧ H b2 = some (.cells (c153 (ast_shape.mk false false false 0 0 false)) 153) ∧ b2 < n) ⟨by simp [ht', f2], by simp [ht'], b_b2, l_b2⟩ ?_
             clear f1 f2 f74 b_b1 l_b1 b_b2 l_b2 d_b1_b2 ht' t'
             rintro t H n ⟨f2, f90, b_b2, l_b2⟩
             refine Stk.om (mop_store (z := 6) rfl f2 b_b2 f90 (len153 _) (by rw [len153]; decide) (ok153 _) (st_153_0_153 _ _)) (by simp [f2, f90]) rfl (fun t' ht' => ?_)
             refine Stk.gen (fun t H n => t 2 = .own b2 0 ∧ H b2 = some (.cells (c153 (ast_shape.mk false false false 0 0 false)) 153) ∧ b2 < n) ⟨by simp [ht', f2], upd_same _ _ _, l_b2⟩ ?_
             clear f2 f90 b_b2 l_b2 ht' t'
             rintro t H n ⟨f2, b_b2, l_b2⟩
             refine evY_sound (f := 3) ?_; simp [-splice, f2, b_b2]
             have hq := Option.some.inj h; subst hq
             exact (hr _ _ _ (.tup [.agg (c153 (ast_shape.mk false false false 0 0 false)), .sc (.bool false)]) ([]) (by simp [-splice, f2, b_b2, ld_153_0_153]) (.inr (.inr (.tup (.cons (.free (fr153 _)) (.cons (.free (rfl)) (.nil))))))).1
theorem ok_slices_IndexFunc_api_Arm_api_Arm (F : Nat) (a0 : (List api_Arm)) (φ1 : api_Arm → Option Bool) (g1 : FuncId) (first1 caps1 : List AV) (fr1 : freeL first1 = true ∧ freeL caps1 = true) (hφ1 : ∀ y0 r, φ1 y0 = some r → RunF Tryz.prog T.T g1 (first1 ++ [.agg (c68 y0)] ++ caps1) (.sc (.bool r))) (r : Int) (h : slices_IndexFunc_api_Arm_api_Arm F a0 φ1 = some r) : RunF Tryz.prog T.T 202 [.ssl (encs c68 a0) a0.length false, .fn (.func g1) first1 caps1] (.sc (.int .i64 r)) := by
  rw [slices_IndexFunc_api_Arm_api_Arm] at h
  refine RunF.z Tryz.func202 rfl rfl rfl rfl rfl (fun C hr => ?_)
  refine Stk.gen (fun t H n => t 0 = .ssl (encs c68 a0) a0.length false ∧ t 1 = .fn (.func g1) first1 caps1) ⟨by simp, by simp⟩ ?_
  rintro t H n ⟨f0, f1⟩
  refine evY_sound (f := 12) ?_; simp [-splice, f0, f1]
  refine Stk.gen (fun t H n => t 0 = .ssl (encs c68 a0) a0.length false ∧ t 1 = .fn (.func g1) first1 caps1 ∧ t 7 = .sc (.int .i64 (a0.length : Int)) ∧ t 8 = .sc (.int .i64 0)) (by and_intros <;> first | assumption | simp [-splice, f0, f1]) ?_
  clear f0 f1
  rintro t H n ⟨f0, f1, f7, f8⟩
  refine Stk.lo (fun μ t H n => ∃ v1 : Int, slices_IndexFunc_api_Arm_api_Arm_L0 F a0 φ1 μ v1 = some r ∧ t 0 = .ssl (encs c68 a0) a0.length false ∧ t 1 = .fn (.func g1) first1 caps1 ∧ t 7 = .sc (.int .i64 (a0.length : Int)) ∧ t 8 = .sc (.int .i64 v1)) F ⟨0, h, f0, f1, f7, f8⟩ ?_
  clear h f0 f1 f7 f8
  rintro J1 hJ1 μ t H n ⟨v1, h, f0, f1, f7, f8⟩
  cases μ with
  | zero => exact absurd h (by simp [slices_IndexFunc_api_Arm_api_Arm_L0])
  | succ μ =>
  rw [slices_IndexFunc_api_Arm_api_Arm_L0] at h
  refine evY_sound (f := 5) ?_; simp [-splice, f0, f1, f7, f8]
  refine Stk.cond (decide (v1 < (a0.length : Int))) (by simp [-splice, f0, f1, f7, f8]) (fun hb3 => ?_) (fun hb3 => ?_)
  ·have h := cT hb3 h
   obtain ⟨x4, hx4, h⟩ := bnd h
   obtain ⟨i0x4, i1x4, i2x4, _⟩ := idx_ok hx4
   have ex4_0_68 : partOf T.T 68 (encs c68 a0) (v1.toNat * 14) = some (.agg (c68 x4)) := by
       have e0 := part_elem0 (e := c68) (z := 14) (T := T.T) (ty := 68) T.t68 (by decide) (by decide) hx4 0 (by decide)
       (try simp only [Nat.mul_one, Nat.add_zero] at e0)
       exact e0.trans (ld_68_0_68 _)
   obtain ⟨x5, hx5, h⟩ := bnd h
   refine evY_sound (f := 15) ?_; simp [-splice, f0, f1, f7, f8, i0x4, i1x4, pd68, ex4_0_68]
   refine Stk.cv (g := g1) (first := first1) (caps := caps1) (args := first1 ++ [.agg (c68 x4)] ++ caps1) (args' := first1 ++ [.agg (c68 x4)] ++ caps1) (v := .sc (.bool x5)) [] (hφ1 _ _ hx5) (by simp [-splice, f0, f1, f7, f8, i0x4, i1x4, pd68, ex4_0_68]) rfl (by simp [-splice, f0, f1, f7, f8, i0x4, i1x4, pd68, ex4_0_68]) (by simp [-splice, f0, f1, f7, f8, i0x4, i1x4, pd68, ex4_0_68]) (viewL_mid (x := [.agg (c68 x4)]) (y := [.agg (c68 x4)]) fr1.1 fr1.2 (.cons (.free (fr68 _)) (.nil))) (.inl ⟨rfl, rfl⟩) (fun t' ht' => ?_)
   subst ht'
   refine evY_sound (f := 1) ?_; simp [-splice, f0, f1, f7, f8, i0x4, i1x4, pd68, ex4_0_68]
   refine Stk.cond x5 (by simp [-splice, f0, f1, f7, f8, i0x4, i1x4, pd68, ex4_0_68]) (fun hb6 => ?_) (fun hb6 => ?_)
   ·have h := cT hb6 h
    refine evY_sound (f := 6) ?_; simp [-splice, f0, f1, f7, f8, i0x4, i1x4, pd68, ex4_0_68]
    have hq := Option.some.inj h; subst hq
    exact (hr _ _ _ (.sc (.int .i64 v1)) ([]) (by simp [-splice, f0, f1, f7, f8, i0x4, i1x4, pd68, ex4_0_68]) (.inr (.inr (.free (rfl))))).1
   ·have h := cF hb6 h
    refine evY_sound (f := 6) ?_; simp [-splice, f0, f1, f7, f8, i0x4, i1x4, pd68, ex4_0_68]
    exact Stk.ln μ (Nat.lt_succ_self _) (hJ1 _ _ _ _ ⟨(IntKind.i64.wrap (v1 + 1)), h, by and_intros <;> first | assumption | simp [-splice, f0, f1, f7, f8, i0x4, i1x4, pd68, ex4_0_68]⟩)
  ·have h := cF hb3 h
   refine Stk.ex rfl ?_
   refine evY_sound (f := 5) ?_; simp [-splice, f0, f1, f7, f8]
   have hq := Option.some.inj h; subst hq
   exact (hr _ _ _ (.sc (.int .i64 (-1))) ([]) (by simp [-splice, f0, f1, f7, f8]) (.inr (.inr (.free (rfl))))).1
theorem ok_slices_ContainsFunc_api_Arm_api_Arm (F : Nat) (a0 : (List api_Arm)) (φ1 : api_Arm → Option Bool) (g1 : FuncId) (first1 caps1 : List AV) (fr1 : freeL first1 = true ∧ freeL caps1 = true) (hφ1 : ∀ y0 r, φ1 y0 = some r → RunF Tryz.prog T.T g1 (first1 ++ [.agg (c68 y0)] ++ caps1) (.sc (.bool r))) (r : Bool) (h : slices_ContainsFunc_api_Arm_api_Arm F a0 φ1 = some r) : RunF Tryz.prog T.T 177 [.ssl (encs c68 a0) a0.length false, .fn (.func g1) first1 caps1] (.sc (.bool r)) := by
  rw [slices_ContainsFunc_api_Arm_api_Arm] at h
  refine RunF.z Tryz.func177 rfl rfl rfl rfl rfl (fun C hr => ?_)
  refine Stk.gen (fun t H n => t 0 = .ssl (encs c68 a0) a0.length false ∧ t 1 = .fn (.func g1) first1 caps1) ⟨by simp, by simp⟩ ?_
  rintro t H n ⟨f0, f1⟩
  obtain ⟨x1, hx1, h⟩ := bnd h
  refine evY_sound (f := 8) ?_; simp [-splice, f0, f1]
  refine Stk.cv (g := 202) (args := [.ssl (encs c68 a0) a0.length false, .fn (.func g1) first1 caps1]) (args' := [.ssl (encs c68 a0) a0.length false, .fn (.func g1) first1 caps1]) (v := .sc (.int .i64 x1)) [] (ok_slices_IndexFunc_api_Arm_api_Arm F _ _ _ _ _ fr1 hφ1 _ hx1) (by simp [-splice, f0, f1]) rfl rfl (by simp [-splice, f0, f1]) (.cons (.free (freeL_encs fr68 _)) (.cons (.free (by simp [free, fr1])) (.nil))) (.inl ⟨rfl, rfl⟩) (fun t' ht' => ?_)
  subst ht'
  refine evY_sound (f := 4) ?_; simp [-splice, f0, f1]
  have hq := Option.some.inj h; subst hq
  exact (hr _ _ _ (.sc (.bool (decide (0 ≤ x1)))) ([]) (by simp [-splice, f0, f1]) (.inr (.inr (.free (rfl))))).1
theorem ok_ast_every_api_Arm_1 (F : Nat) (a0 : api_Arm) (φ1 : api_Arm → Option Bool) (g1 : FuncId) (first1 caps1 : List AV) (fr1 : freeL first1 = true ∧ freeL caps1 = true) (hφ1 : ∀ y0 r, φ1 y0 = some r → RunF Tryz.prog T.T g1 (first1 ++ [.agg (c68 y0)] ++ caps1) (.sc (.bool r))) (r : Bool) (h : ast_every_api_Arm_1 F a0 φ1 = some r) : RunF Tryz.prog T.T 178 [.agg (c68 a0), .sh [.fn (.func g1) first1 caps1]] (.sc (.bool r)) := by
  rw [ast_every_api_Arm_1] at h
  refine RunF.z Tryz.func178 rfl rfl rfl rfl rfl (fun C hr => ?_)
  refine Stk.gen (fun t H n => t 0 = .agg (c68 a0) ∧ t 1 = .sh [.fn (.func g1) first1 caps1]) ⟨by simp, by simp⟩ ?_
  rintro t H n ⟨f0, f1⟩
  refine evY_sound (f := 2) ?_; simp [-splice, f0, f1]
  refine Stk.gen (fun t H n => t 0 = .agg (c68 a0) ∧ t 1 = .sh [.fn (.func g1) first1 caps1]) (by and_intros <;> first | assumption | simp [-splice, f0, f1]) ?_
  clear f0 f1
  rintro t H n ⟨f0, f1⟩
  refine Stk.om (mop_box T.t68 (cs := c68 a0) (by show partOk (t 0) = true; rw [f0]; rfl) (by show cellsOf (t 0) = _; rw [f0]; rfl)) (by simp [f0, f1]) rfl (fun t' ht' => ?_)
  refine Stk.gen (fun t H n => ∃ b1, t 1 = .sh [.fn (.func g1) first1 caps1] ∧ t 2 = .own b1 0 ∧ H b1 = some (.cells (c68 a0) 68) ∧ b1 < n) ⟨n, by simp [ht', f1], by simp [ht'], upd_same _ _ _, Nat.lt_succ_self _⟩ ?_
  clear f0 f1 ht' t'
  rintro t H n ⟨b1, f1, f2, b_b1, l_b1⟩
  obtain ⟨x2, hx2, h⟩ := bnd h
  refine evY_sound (f := 6) ?_; simp [-splice, f1, f2, b_b1, ldF157, ld_68_0_68]
  refine Stk.cv (g := g1) (first := first1) (caps := caps1) (args := first1 ++ [.agg (c68 a0)] ++ caps1) (args' := first1 ++ [.agg (c68 a0)] ++ caps1) (v := .sc (.bool x2)) [] (hφ1 _ _ hx2) (by simp [-splice, f1, f2, b_b1, ldF157, ld_68_0_68]) rfl (by simp [-splice, f1, f2, b_b1, ldF157, ld_68_0_68]) (by simp [-splice, f1, f2, b_b1, ldF157, ld_68_0_68]) (viewL_mid (x := [.agg (c68 a0)]) (y := [.agg (c68 a0)]) fr1.1 fr1.2 (.cons (.free (fr68 _)) (.nil))) (.inl ⟨rfl, rfl⟩) (fun t' ht' => ?_)
  subst ht'
  refine evY_sound (f := 4) ?_; simp [-splice, f1, f2, b_b1, ldF157, ld_68_0_68]
  have hq := Option.some.inj h; subst hq
  exact (hr _ _ _ (.sc (.bool (!x2))) ([]) (by simp [-splice, f1, f2, b_b1, ldF157, ld_68_0_68]) (.inr (.inr (.free (rfl))))).1
theorem ok_ast_every_api_Arm (F : Nat) (a0 : (List api_Arm)) (a1 : Int) (a2 : Int) (φ3 : api_Arm → Option Bool) (g3 : FuncId) (first3 caps3 : List AV) (fr3 : freeL first3 = true ∧ freeL caps3 = true) (hφ3 : ∀ y0 r, φ3 y0 = some r → RunF Tryz.prog T.T g3 (first3 ++ [.agg (c68 y0)] ++ caps3) (.sc (.bool r))) (r : Bool) (h : ast_every_api_Arm F a0 a1 a2 φ3 = some r) : RunF Tryz.prog T.T 121 [.ssl (encs c68 a0) a0.length false, .sc (.int .i64 a1), .sc (.int .i64 a2), .fn (.func g3) first3 caps3] (.sc (.bool r)) := by
  rw [ast_every_api_Arm] at h
  refine RunF.z Tryz.func121 rfl rfl rfl rfl rfl (fun C hr => ?_)
  refine Stk.gen (fun t H n => t 0 = .ssl (encs c68 a0) a0.length false ∧ t 1 = .sc (.int .i64 a1) ∧ t 2 = .sc (.int .i64 a2) ∧ t 3 = .fn (.func g3) first3 caps3) ⟨by simp, by simp, by simp, by simp⟩ ?_
  rintro t H n ⟨f0, f1, f2, f3⟩
  refine evY_sound (f := 2) ?_; simp [-splice, f0, f1, f2, f3]
  refine Stk.gen (fun t H n => t 0 = .ssl (encs c68 a0) a0.length false ∧ t 1 = .sc (.int .i64 a1) ∧ t 2 = .sc (.int .i64 a2) ∧ t 3 = .fn (.func g3) first3 caps3) (by and_intros <;> first | assumption | simp [-splice, f0, f1, f2, f3]) ?_
  clear f0 f1 f2 f3
  rintro t H n ⟨f0, f1, f2, f3⟩
  refine Stk.om (mop_box T.t157 (cs := [.fn (.func g3) first3 caps3]) (by show partOk (t 3) = true; rw [f3]; rfl) (by show cellsOf (t 3) = _; rw [f3]; rfl)) (by simp [f0, f1, f2, f3]) rfl (fun t' ht' => ?_)
  refine Stk.gen (fun t H n => ∃ b1, t 0 = .ssl (encs c68 a0) a0.length false ∧ t 1 = .sc (.int .i64 a1) ∧ t 2 = .sc (.int .i64 a2) ∧ t 7 = .own b1 0 ∧ H b1 = some (.cells ([.fn (.func g3) first3 caps3]) 157) ∧ b1 < n) ⟨n, by simp [ht', f0], by simp [ht', f1], by simp [ht', f2], by simp [ht'], upd_same _ _ _, Nat.lt_succ_self _⟩ ?_
  clear f0 f1 f2 f3 ht' t'
  rintro t H n ⟨b1, f0, f1, f2, f7, b_b1, l_b1⟩
  refine evY_sound (f := 9) ?_; simp [-splice, f0, f1, f2, f7, b_b1]
  refine Stk.gd 5 13 18 (fun z => .sc (.bool (z && (decide ((a0.length : Int) ≤ a2))))) (w := decide (a1 ≤ (a0.length : Int))) (by simp [-splice, f0, f1, f2, f7, b_b1]) (by simp [-splice, f0, f1, f2, f7, b_b1]) (by simp [-splice, f0, f1, f2, f7, b_b1]) ?_; simp [-splice, f0, f1, f2, f7, b_b1]
  refine evY_sound (f := 1) ?_; simp [-splice, f0, f1, f2, f7, b_b1]
  refine Stk.gen (fun t H n => t 0 = .ssl (encs c68 a0) a0.length false ∧ t 7 = .own b1 0 ∧ t 19 = .sc (.bool ((decide (a1 ≤ (a0.length : Int))) && (decide ((a0.length : Int) ≤ a2)))) ∧ H b1 = some (.cells ([.fn (.func g3) first3 caps3]) 157) ∧ b1 < n) (by and_intros <;> first | assumption | simp [-splice, f0, f1, f2, f7, b_b1]) ?_
  clear f0 f1 f2 f7 b_b1 l_b1
  rintro t H n ⟨f0, f7, f19, b_b1, l_b1⟩
  obtain ⟨K1, hK1, h⟩ := jnd h
  refine Stk.jo 5 (fun t H n => ∃ v2 : Bool, K1 v2 = some r ∧ t 24 = .sc (.bool v2)) (fun J1 hJ1 => ?_) ?_
  · rcases Bool.eq_false_or_eq_true ((decide (a1 ≤ (a0.length : Int))) && (decide ((a0.length : Int) ≤ a2))) with hb1 | hb1
    · rw [hb1] at f19
      replace h := cT hb1 h
      obtain ⟨x3, hx3, h⟩ := bnd h
      refine evY_sound (f := 2) ?_; simp [-splice, f0, f7, f19, b_b1]
      refine Stk.cv (g := 177) (args := [.ssl (encs c68 a0) a0.length false, .fn (.func 178) [] [.own b1 0]]) (args' := [.ssl (encs c68 a0) a0.length false, .fn (.func 178) [] [.sh [.fn (.func g3) first3 caps3]]]) (v := .sc (.bool x3)) [b1] (ok_slices_ContainsFunc_api_Arm_api_Arm F _ _ 178 [] [.sh [.fn (.func g3) first3 caps3]] (by and_intros <;> first | assumption | simp [freeL, free, fr3]) (fun y0 r h => ok_ast_every_api_Arm_1 F y0 _ _ _ _ fr3 hφ3 r h) _ hx3) (by simp [-splice, f0, f7, f19, b_b1]) rfl rfl (by simp [-splice, f0, f7, f19, b_b1]) (.cons (.free (freeL_encs fr68 _)) (.cons (.fn .nil (.cons (view_blk b_b1 (by simp) (by simp [freeL, free, fr3])) (.nil))) (.nil))) (.inr rfl) (fun t' ht' => ?_)
      subst ht'
      refine evY_sound (f := 3) ?_; simp [-splice, f0, f7, f19, b_b1]
      exact Stk.ln 0 (by decide) (hJ1 _ _ _ ⟨(!x3), h, by simp [-splice, f0, f7, f19, b_b1]⟩)
    · rw [hb1] at f19
      replace h := cF hb1 h
      refine evY_sound (f := 6) ?_; simp [-splice, f0, f7, f19, b_b1]
      exact Stk.ln 0 (by decide) (hJ1 _ _ _ ⟨false, h, by simp [-splice, f0, f7, f19, b_b1]⟩)
  clear h f0 f7 f19 b_b1 l_b1
  rintro t H n ⟨v2, h, f24⟩
  subst hK1
  refine evY_sound (f := 3) ?_; simp [-splice, f24]
  have hq := Option.some.inj h; subst hq
  exact (hr _ _ _ (.sc (.bool v2)) ([]) (by simp [-splice, f24]) (.inr (.inr (.free (rfl))))).1
theorem ok_slices_IndexFunc_api_Expr_api_Expr (F : Nat) (a0 : (List api_Expr)) (φ1 : api_Expr → Option Bool) (g1 : FuncId) (first1 caps1 : List AV) (fr1 : freeL first1 = true ∧ freeL caps1 = true) (hφ1 : ∀ y0 r, φ1 y0 = some r → RunF Tryz.prog T.T g1 (first1 ++ [.agg (c33 y0)] ++ caps1) (.sc (.bool r))) (r : Int) (h : slices_IndexFunc_api_Expr_api_Expr F a0 φ1 = some r) : RunF Tryz.prog T.T 203 [.ssl (encs c33 a0) a0.length false, .fn (.func g1) first1 caps1] (.sc (.int .i64 r)) := by
  rw [slices_IndexFunc_api_Expr_api_Expr] at h
  refine RunF.z Tryz.func203 rfl rfl rfl rfl rfl (fun C hr => ?_)
  refine Stk.gen (fun t H n => t 0 = .ssl (encs c33 a0) a0.length false ∧ t 1 = .fn (.func g1) first1 caps1) ⟨by simp, by simp⟩ ?_
  rintro t H n ⟨f0, f1⟩
  refine evY_sound (f := 12) ?_; simp [-splice, f0, f1]
  refine Stk.gen (fun t H n => t 0 = .ssl (encs c33 a0) a0.length false ∧ t 1 = .fn (.func g1) first1 caps1 ∧ t 7 = .sc (.int .i64 (a0.length : Int)) ∧ t 8 = .sc (.int .i64 0)) (by and_intros <;> first | assumption | simp [-splice, f0, f1]) ?_
  clear f0 f1
  rintro t H n ⟨f0, f1, f7, f8⟩
  refine Stk.lo (fun μ t H n => ∃ v1 : Int, slices_IndexFunc_api_Expr_api_Expr_L0 F a0 φ1 μ v1 = some r ∧ t 0 = .ssl (encs c33 a0) a0.length false ∧ t 1 = .fn (.func g1) first1 caps1 ∧ t 7 = .sc (.int .i64 (a0.length : Int)) ∧ t 8 = .sc (.int .i64 v1)) F ⟨0, h, f0, f1, f7, f8⟩ ?_
  clear h f0 f1 f7 f8
  rintro J1 hJ1 μ t H n ⟨v1, h, f0, f1, f7, f8⟩
  cases μ with
  | zero => exact absurd h (by simp [slices_IndexFunc_api_Expr_api_Expr_L0])
  | succ μ =>
  rw [slices_IndexFunc_api_Expr_api_Expr_L0] at h
  refine evY_sound (f := 5) ?_; simp [-splice, f0, f1, f7, f8]
  refine Stk.cond (decide (v1 < (a0.length : Int))) (by simp [-splice, f0, f1, f7, f8]) (fun hb3 => ?_) (fun hb3 => ?_)
  ·have h := cT hb3 h
   obtain ⟨x4, hx4, h⟩ := bnd h
   obtain ⟨i0x4, i1x4, i2x4, _⟩ := idx_ok hx4
   have ex4_0_33 : partOf T.T 33 (encs c33 a0) (v1.toNat * 8) = some (.agg (c33 x4)) := by
       have e0 := part_elem0 (e := c33) (z := 8) (T := T.T) (ty := 33) T.t33 (by decide) (by decide) hx4 0 (by decide)
       (try simp only [Nat.mul_one, Nat.add_zero] at e0)
       exact e0.trans (ld_33_0_33 _)
   obtain ⟨x5, hx5, h⟩ := bnd h
   refine evY_sound (f := 15) ?_; simp [-splice, f0, f1, f7, f8, i0x4, i1x4, pd33, ex4_0_33]
   refine Stk.cv (g := g1) (first := first1) (caps := caps1) (args := first1 ++ [.agg (c33 x4)] ++ caps1) (args' := first1 ++ [.agg (c33 x4)] ++ caps1) (v := .sc (.bool x5)) [] (hφ1 _ _ hx5) (by simp [-splice, f0, f1, f7, f8, i0x4, i1x4, pd33, ex4_0_33]) rfl (by simp [-splice, f0, f1, f7, f8, i0x4, i1x4, pd33, ex4_0_33]) (by simp [-splice, f0, f1, f7, f8, i0x4, i1x4, pd33, ex4_0_33]) (viewL_mid (x := [.agg (c33 x4)]) (y := [.agg (c33 x4)]) fr1.1 fr1.2 (.cons (.free (fr33 _)) (.nil))) (.inl ⟨rfl, rfl⟩) (fun t' ht' => ?_)
   subst ht'
   refine evY_sound (f := 1) ?_; simp [-splice, f0, f1, f7, f8, i0x4, i1x4, pd33, ex4_0_33]
   refine Stk.cond x5 (by simp [-splice, f0, f1, f7, f8, i0x4, i1x4, pd33, ex4_0_33]) (fun hb6 => ?_) (fun hb6 => ?_)
   ·have h := cT hb6 h
    refine evY_sound (f := 6) ?_; simp [-splice, f0, f1, f7, f8, i0x4, i1x4, pd33, ex4_0_33]
    have hq := Option.some.inj h; subst hq
    exact (hr _ _ _ (.sc (.int .i64 v1)) ([]) (by simp [-splice, f0, f1, f7, f8, i0x4, i1x4, pd33, ex4_0_33]) (.inr (.inr (.free (rfl))))).1
   ·have h := cF hb6 h
    refine evY_sound (f := 6) ?_; simp [-splice, f0, f1, f7, f8, i0x4, i1x4, pd33, ex4_0_33]
    exact Stk.ln μ (Nat.lt_succ_self _) (hJ1 _ _ _ _ ⟨(IntKind.i64.wrap (v1 + 1)), h, by and_intros <;> first | assumption | simp [-splice, f0, f1, f7, f8, i0x4, i1x4, pd33, ex4_0_33]⟩)
  ·have h := cF hb3 h
   refine Stk.ex rfl ?_
   refine evY_sound (f := 5) ?_; simp [-splice, f0, f1, f7, f8]
   have hq := Option.some.inj h; subst hq
   exact (hr _ _ _ (.sc (.int .i64 (-1))) ([]) (by simp [-splice, f0, f1, f7, f8]) (.inr (.inr (.free (rfl))))).1
theorem ok_slices_ContainsFunc_api_Expr_api_Expr (F : Nat) (a0 : (List api_Expr)) (φ1 : api_Expr → Option Bool) (g1 : FuncId) (first1 caps1 : List AV) (fr1 : freeL first1 = true ∧ freeL caps1 = true) (hφ1 : ∀ y0 r, φ1 y0 = some r → RunF Tryz.prog T.T g1 (first1 ++ [.agg (c33 y0)] ++ caps1) (.sc (.bool r))) (r : Bool) (h : slices_ContainsFunc_api_Expr_api_Expr F a0 φ1 = some r) : RunF Tryz.prog T.T 179 [.ssl (encs c33 a0) a0.length false, .fn (.func g1) first1 caps1] (.sc (.bool r)) := by
  rw [slices_ContainsFunc_api_Expr_api_Expr] at h
  refine RunF.z Tryz.func179 rfl rfl rfl rfl rfl (fun C hr => ?_)
  refine Stk.gen (fun t H n => t 0 = .ssl (encs c33 a0) a0.length false ∧ t 1 = .fn (.func g1) first1 caps1) ⟨by simp, by simp⟩ ?_
  rintro t H n ⟨f0, f1⟩
  obtain ⟨x1, hx1, h⟩ := bnd h
  refine evY_sound (f := 8) ?_; simp [-splice, f0, f1]
  refine Stk.cv (g := 203) (args := [.ssl (encs c33 a0) a0.length false, .fn (.func g1) first1 caps1]) (args' := [.ssl (encs c33 a0) a0.length false, .fn (.func g1) first1 caps1]) (v := .sc (.int .i64 x1)) [] (ok_slices_IndexFunc_api_Expr_api_Expr F _ _ _ _ _ fr1 hφ1 _ hx1) (by simp [-splice, f0, f1]) rfl rfl (by simp [-splice, f0, f1]) (.cons (.free (freeL_encs fr33 _)) (.cons (.free (by simp [free, fr1])) (.nil))) (.inl ⟨rfl, rfl⟩) (fun t' ht' => ?_)
  subst ht'
  refine evY_sound (f := 4) ?_; simp [-splice, f0, f1]
  have hq := Option.some.inj h; subst hq
  exact (hr _ _ _ (.sc (.bool (decide (0 ≤ x1)))) ([]) (by simp [-splice, f0, f1]) (.inr (.inr (.free (rfl))))).1
theorem ok_ast_every_api_Expr_1 (F : Nat) (a0 : api_Expr) (φ1 : api_Expr → Option Bool) (g1 : FuncId) (first1 caps1 : List AV) (fr1 : freeL first1 = true ∧ freeL caps1 = true) (hφ1 : ∀ y0 r, φ1 y0 = some r → RunF Tryz.prog T.T g1 (first1 ++ [.agg (c33 y0)] ++ caps1) (.sc (.bool r))) (r : Bool) (h : ast_every_api_Expr_1 F a0 φ1 = some r) : RunF Tryz.prog T.T 180 [.agg (c33 a0), .sh [.fn (.func g1) first1 caps1]] (.sc (.bool r)) := by
  rw [ast_every_api_Expr_1] at h
  refine RunF.z Tryz.func180 rfl rfl rfl rfl rfl (fun C hr => ?_)
  refine Stk.gen (fun t H n => t 0 = .agg (c33 a0) ∧ t 1 = .sh [.fn (.func g1) first1 caps1]) ⟨by simp, by simp⟩ ?_
  rintro t H n ⟨f0, f1⟩
  refine evY_sound (f := 2) ?_; simp [-splice, f0, f1]
  refine Stk.gen (fun t H n => t 0 = .agg (c33 a0) ∧ t 1 = .sh [.fn (.func g1) first1 caps1]) (by and_intros <;> first | assumption | simp [-splice, f0, f1]) ?_
  clear f0 f1
  rintro t H n ⟨f0, f1⟩
  refine Stk.om (mop_box T.t33 (cs := c33 a0) (by show partOk (t 0) = true; rw [f0]; rfl) (by show cellsOf (t 0) = _; rw [f0]; rfl)) (by simp [f0, f1]) rfl (fun t' ht' => ?_)
  refine Stk.gen (fun t H n => ∃ b1, t 1 = .sh [.fn (.func g1) first1 caps1] ∧ t 2 = .own b1 0 ∧ H b1 = some (.cells (c33 a0) 33) ∧ b1 < n) ⟨n, by simp [ht', f1], by simp [ht'], upd_same _ _ _, Nat.lt_succ_self _⟩ ?_
  clear f0 f1 ht' t'
  rintro t H n ⟨b1, f1, f2, b_b1, l_b1⟩
  obtain ⟨x2, hx2, h⟩ := bnd h
  refine evY_sound (f := 6) ?_; simp [-splice, f1, f2, b_b1, ldF45, ld_33_0_33]
  refine Stk.cv (g := g1) (first := first1) (caps := caps1) (args := first1 ++ [.agg (c33 a0)] ++ caps1) (args' := first1 ++ [.agg (c33 a0)] ++ caps1) (v := .sc (.bool x2)) [] (hφ1 _ _ hx2) (by simp [-splice, f1, f2, b_b1, ldF45, ld_33_0_33]) rfl (by simp [-splice, f1, f2, b_b1, ldF45, ld_33_0_33]) (by simp [-splice, f1, f2, b_b1, ldF45, ld_33_0_33]) (viewL_mid (x := [.agg (c33 a0)]) (y := [.agg (c33 a0)]) fr1.1 fr1.2 (.cons (.free (fr33 _)) (.nil))) (.inl ⟨rfl, rfl⟩) (fun t' ht' => ?_)
  subst ht'
  refine evY_sound (f := 4) ?_; simp [-splice, f1, f2, b_b1, ldF45, ld_33_0_33]
  have hq := Option.some.inj h; subst hq
  exact (hr _ _ _ (.sc (.bool (!x2))) ([]) (by simp [-splice, f1, f2, b_b1, ldF45, ld_33_0_33]) (.inr (.inr (.free (rfl))))).1
theorem ok_ast_every_api_Expr (F : Nat) (a0 : (List api_Expr)) (a1 : Int) (a2 : Int) (φ3 : api_Expr → Option Bool) (g3 : FuncId) (first3 caps3 : List AV) (fr3 : freeL first3 = true ∧ freeL caps3 = true) (hφ3 : ∀ y0 r, φ3 y0 = some r → RunF Tryz.prog T.T g3 (first3 ++ [.agg (c33 y0)] ++ caps3) (.sc (.bool r))) (r : Bool) (h : ast_every_api_Expr F a0 a1 a2 φ3 = some r) : RunF Tryz.prog T.T 123 [.ssl (encs c33 a0) a0.length false, .sc (.int .i64 a1), .sc (.int .i64 a2), .fn (.func g3) first3 caps3] (.sc (.bool r)) := by
  rw [ast_every_api_Expr] at h
  refine RunF.z Tryz.func123 rfl rfl rfl rfl rfl (fun C hr => ?_)
  refine Stk.gen (fun t H n => t 0 = .ssl (encs c33 a0) a0.length false ∧ t 1 = .sc (.int .i64 a1) ∧ t 2 = .sc (.int .i64 a2) ∧ t 3 = .fn (.func g3) first3 caps3) ⟨by simp, by simp, by simp, by simp⟩ ?_
  rintro t H n ⟨f0, f1, f2, f3⟩
  refine evY_sound (f := 2) ?_; simp [-splice, f0, f1, f2, f3]
  refine Stk.gen (fun t H n => t 0 = .ssl (encs c33 a0) a0.length false ∧ t 1 = .sc (.int .i64 a1) ∧ t 2 = .sc (.int .i64 a2) ∧ t 3 = .fn (.func g3) first3 caps3) (by and_intros <;> first | assumption | simp [-splice, f0, f1, f2, f3]) ?_
  clear f0 f1 f2 f3
  rintro t H n ⟨f0, f1, f2, f3⟩
  refine Stk.om (mop_box T.t45 (cs := [.fn (.func g3) first3 caps3]) (by show partOk (t 3) = true; rw [f3]; rfl) (by show cellsOf (t 3) = _; rw [f3]; rfl)) (by simp [f0, f1, f2, f3]) rfl (fun t' ht' => ?_)
  refine Stk.gen (fun t H n => ∃ b1, t 0 = .ssl (encs c33 a0) a0.length false ∧ t 1 = .sc (.int .i64 a1) ∧ t 2 = .sc (.int .i64 a2) ∧ t 7 = .own b1 0 ∧ H b1 = some (.cells ([.fn (.func g3) first3 caps3]) 45) ∧ b1 < n) ⟨n, by simp [ht', f0], by simp [ht', f1], by simp [ht', f2], by simp [ht'], upd_same _ _ _, Nat.lt_succ_self _⟩ ?_
  clear f0 f1 f2 f3 ht' t'
  rintro t H n ⟨b1, f0, f1, f2, f7, b_b1, l_b1⟩
  refine evY_sound (f := 9) ?_; simp [-splice, f0, f1, f2, f7, b_b1]
  refine Stk.gd 5 13 18 (fun z => .sc (.bool (z && (decide ((a0.length : Int) ≤ a2))))) (w := decide (a1 ≤ (a0.length : Int))) (by simp [-splice, f0, f1, f2, f7, b_b1]) (by simp [-splice, f0, f1, f2, f7, b_b1]) (by simp [-splice, f0, f1, f2, f7, b_b1]) ?_; simp [-splice, f0, f1, f2, f7, b_b1]
  refine evY_sound (f := 1) ?_; simp [-splice, f0, f1, f2, f7, b_b1]
  refine Stk.gen (fun t H n => t 0 = .ssl (encs c33 a0) a0.length false ∧ t 7 = .own b1 0 ∧ t 19 = .sc (.bool ((decide (a1 ≤ (a0.length : Int))) && (decide ((a0.length : Int) ≤ a2)))) ∧ H b1 = some (.cells ([.fn (.func g3) first3 caps3]) 45) ∧ b1 < n) (by and_intros <;> first | assumption | simp [-splice, f0, f1, f2, f7, b_b1]) ?_
  clear f0 f1 f2 f7 b_b1 l_b1
  rintro t H n ⟨f0, f7, f19, b_b1, l_b1⟩
  obtain ⟨K1, hK1, h⟩ := jnd h
  refine Stk.jo 5 (fun t H n => ∃ v2 : Bool, K1 v2 = some r ∧ t 24 = .sc (.bool v2)) (fun J1 hJ1 => ?_) ?_
  · rcases Bool.eq_false_or_eq_true ((decide (a1 ≤ (a0.length : Int))) && (decide ((a0.length : Int) ≤ a2))) with hb1 | hb1
    · rw [hb1] at f19
      replace h := cT hb1 h
      obtain ⟨x3, hx3, h⟩ := bnd h
      refine evY_sound (f := 2) ?_; simp [-splice, f0, f7, f19, b_b1]
      refine Stk.cv (g := 179) (args := [.ssl (encs c33 a0) a0.length false, .fn (.func 180) [] [.own b1 0]]) (args' := [.ssl (encs c33 a0) a0.length false, .fn (.func 180) [] [.sh [.fn (.func g3) first3 caps3]]]) (v := .sc (.bool x3)) [b1] (ok_slices_ContainsFunc_api_Expr_api_Expr F _ _ 180 [] [.sh [.fn (.func g3) first3 caps3]] (by and_intros <;> first | assumption | simp [freeL, free, fr3]) (fun y0 r h => ok_ast_every_api_Expr_1 F y0 _ _ _ _ fr3 hφ3 r h) _ hx3) (by simp [-splice, f0, f7, f19, b_b1]) rfl rfl (by simp [-splice, f0, f7, f19, b_b1]) (.cons (.free (freeL_encs fr33 _)) (.cons (.fn .nil (.cons (view_blk b_b1 (by simp) (by simp [freeL, free, fr3])) (.nil))) (.nil))) (.inr rfl) (fun t' ht' => ?_)
      subst ht'
      refine evY_sound (f := 3) ?_; simp [-splice, f0, f7, f19, b_b1]
      exact Stk.ln 0 (by decide) (hJ1 _ _ _ ⟨(!x3), h, by simp [-splice, f0, f7, f19, b_b1]⟩)
    · rw [hb1] at f19
      replace h := cF hb1 h
      refine evY_sound (f := 6) ?_; simp [-splice, f0, f7, f19, b_b1]
      exact Stk.ln 0 (by decide) (hJ1 _ _ _ ⟨false, h, by simp [-splice, f0, f7, f19, b_b1]⟩)
  clear h f0 f7 f19 b_b1 l_b1
  rintro t H n ⟨v2, h, f24⟩
  subst hK1
  refine evY_sound (f := 3) ?_; simp [-splice, f24]
  have hq := Option.some.inj h; subst hq
  exact (hr _ _ _ (.sc (.bool v2)) ([]) (by simp [-splice, f24]) (.inr (.inr (.free (rfl))))).1
theorem ok_slices_IndexFunc_api_Pat_api_Pat (F : Nat) (a0 : (List api_Pat)) (φ1 : api_Pat → Option Bool) (g1 : FuncId) (first1 caps1 : List AV) (fr1 : freeL first1 = true ∧ freeL caps1 = true) (hφ1 : ∀ y0 r, φ1 y0 = some r → RunF Tryz.prog T.T g1 (first1 ++ [.agg (c39 y0)] ++ caps1) (.sc (.bool r))) (r : Int) (h : slices_IndexFunc_api_Pat_api_Pat F a0 φ1 = some r) : RunF Tryz.prog T.T 204 [.ssl (encs c39 a0) a0.length false, .fn (.func g1) first1 caps1] (.sc (.int .i64 r)) := by
  rw [slices_IndexFunc_api_Pat_api_Pat] at h
  refine RunF.z Tryz.func204 rfl rfl rfl rfl rfl (fun C hr => ?_)
  refine Stk.gen (fun t H n => t 0 = .ssl (encs c39 a0) a0.length false ∧ t 1 = .fn (.func g1) first1 caps1) ⟨by simp, by simp⟩ ?_
  rintro t H n ⟨f0, f1⟩
  refine evY_sound (f := 12) ?_; simp [-splice, f0, f1]
  refine Stk.gen (fun t H n => t 0 = .ssl (encs c39 a0) a0.length false ∧ t 1 = .fn (.func g1) first1 caps1 ∧ t 7 = .sc (.int .i64 (a0.length : Int)) ∧ t 8 = .sc (.int .i64 0)) (by and_intros <;> first | assumption | simp [-splice, f0, f1]) ?_
  clear f0 f1
  rintro t H n ⟨f0, f1, f7, f8⟩
  refine Stk.lo (fun μ t H n => ∃ v1 : Int, slices_IndexFunc_api_Pat_api_Pat_L0 F a0 φ1 μ v1 = some r ∧ t 0 = .ssl (encs c39 a0) a0.length false ∧ t 1 = .fn (.func g1) first1 caps1 ∧ t 7 = .sc (.int .i64 (a0.length : Int)) ∧ t 8 = .sc (.int .i64 v1)) F ⟨0, h, f0, f1, f7, f8⟩ ?_
  clear h f0 f1 f7 f8
  rintro J1 hJ1 μ t H n ⟨v1, h, f0, f1, f7, f8⟩
  cases μ with
  | zero => exact absurd h (by simp [slices_IndexFunc_api_Pat_api_Pat_L0])
  | succ μ =>
  rw [slices_IndexFunc_api_Pat_api_Pat_L0] at h
  refine evY_sound (f := 5) ?_; simp [-splice, f0, f1, f7, f8]
  refine Stk.cond (decide (v1 < (a0.length : Int))) (by simp [-splice, f0, f1, f7, f8]) (fun hb3 => ?_) (fun hb3 => ?_)
  ·have h := cT hb3 h
   obtain ⟨x4, hx4, h⟩ := bnd h
   obtain ⟨i0x4, i1x4, i2x4, _⟩ := idx_ok hx4
   have ex4_0_39 : partOf T.T 39 (encs c39 a0) (v1.toNat * 6) = some (.agg (c39 x4)) := by
       have e0 := part_elem0 (e := c39) (z := 6) (T := T.T) (ty := 39) T.t39 (by decide) (by decide) hx4 0 (by decide)
       (try simp only [Nat.mul_one, Nat.add_zero] at e0)
       exact e0.trans (ld_39_0_39 _)
   obtain ⟨x5, hx5, h⟩ := bnd h
   refine evY_sound (f := 15) ?_; simp [-splice, f0, f1, f7, f8, i0x4, i1x4, pd39, ex4_0_39]
   refine Stk.cv (g := g1) (first := first1) (caps := caps1) (args := first1 ++ [.agg (c39 x4)] ++ caps1) (args' := first1 ++ [.agg (c39 x4)] ++ caps1) (v := .sc (.bool x5)) [] (hφ1 _ _ hx5) (by simp [-splice, f0, f1, f7, f8, i0x4, i1x4, pd39, ex4_0_39]) rfl (by simp [-splice, f0, f1, f7, f8, i0x4, i1x4, pd39, ex4_0_39]) (by simp [-splice, f0, f1, f7, f8, i0x4, i1x4, pd39, ex4_0_39]) (viewL_mid (x := [.agg (c39 x4)]) (y := [.agg (c39 x4)]) fr1.1 fr1.2 (.cons (.free (fr39 _)) (.nil))) (.inl ⟨rfl, rfl⟩) (fun t' ht' => ?_)
   subst ht'
   refine evY_sound (f := 1) ?_; simp [-splice, f0, f1, f7, f8, i0x4, i1x4, pd39, ex4_0_39]
   refine Stk.cond x5 (by simp [-splice, f0, f1, f7, f8, i0x4, i1x4, pd39, ex4_0_39]) (fun hb6 => ?_) (fun hb6 => ?_)
   ·have h := cT hb6 h
    refine evY_sound (f := 6) ?_; simp [-splice, f0, f1, f7, f8, i0x4, i1x4, pd39, ex4_0_39]
    have hq := Option.some.inj h; subst hq
    exact (hr _ _ _ (.sc (.int .i64 v1)) ([]) (by simp [-splice, f0, f1, f7, f8, i0x4, i1x4, pd39, ex4_0_39]) (.inr (.inr (.free (rfl))))).1
   ·have h := cF hb6 h
    refine evY_sound (f := 6) ?_; simp [-splice, f0, f1, f7, f8, i0x4, i1x4, pd39, ex4_0_39]
    exact Stk.ln μ (Nat.lt_succ_self _) (hJ1 _ _ _ _ ⟨(IntKind.i64.wrap (v1 + 1)), h, by and_intros <;> first | assumption | simp [-splice, f0, f1, f7, f8, i0x4, i1x4, pd39, ex4_0_39]⟩)
  ·have h := cF hb3 h
   refine Stk.ex rfl ?_
   refine evY_sound (f := 5) ?_; simp [-splice, f0, f1, f7, f8]
   have hq := Option.some.inj h; subst hq
   exact (hr _ _ _ (.sc (.int .i64 (-1))) ([]) (by simp [-splice, f0, f1, f7, f8]) (.inr (.inr (.free (rfl))))).1
end Go.Proofs.YtappiofmkoelnaaGreatDoor.M
end
section
namespace Go.Proofs.YtappiofmkoelnaaGreatDoor.M
open Go.Proofs.YtappiofmkoelnaaGreatDoorW.Ah Go.Proofs.YtappiofmkoelnaaGreatDoor
set_option linter.unusedVariables false
set_option linter.unusedSimpArgs false
set_option maxRecDepth 8000
attribute [local simp] T.t2 T.t3 T.t4 T.t9 T.t22 T.t29 T.t30 T.t31 T.t33 T.t37 T.t39 T.t46 T.t68 T.t70 T.t72 T.t73 T.t87 T.t92 T.t153 List.range List.range.loop
attribute [-simp] appendAV fillAV
theorem ok_slices_ContainsFunc_api_Pat_api_Pat (F : Nat) (a0 : (List api_Pat)) (φ1 : api_Pat → Option Bool) (g1 : FuncId) (first1 caps1 : List AV) (fr1 : freeL first1 = true ∧ freeL caps1 = true) (hφ1 : ∀ y0 r, φ1 y0 = some r → RunF Tryz.prog T.T g1 (first1 ++ [.agg (c39 y0)] ++ caps1) (.sc (.bool r))) (r : Bool) (h : slices_ContainsFunc_api_Pat_api_Pat F a0 φ1 = some r) : RunF Tryz.prog T.T 182 [.ssl (encs c39 a0) a0.length false, .fn (.func g1) first1 caps1] (.sc (.bool r)) := by
  rw [slices_ContainsFunc_api_Pat_api_Pat] at h
  refine RunF.z Tryz.func182 rfl rfl rfl rfl rfl (fun C hr => ?_)
  refine Stk.gen (fun t H n => t 0 = .ssl (encs c39 a0) a0.length false ∧ t 1 = .fn (.func g1) first1 caps1) ⟨by simp, by simp⟩ ?_
  rintro t H n ⟨f0, f1⟩
  obtain ⟨x1, hx1, h⟩ := bnd h
  refine evY_sound (f := 8) ?_; simp [-splice, f0, f1]
  refine Stk.cv (g := 204) (args := [.ssl (encs c39 a0) a0.length false, .fn (.func g1) first1 caps1]) (args' := [.ssl (encs c39 a0) a0.length false, .fn (.func g1) first1 caps1]) (v := .sc (.int .i64 x1)) [] (ok_slices_IndexFunc_api_Pat_api_Pat F _ _ _ _ _ fr1 hφ1 _ hx1) (by simp [-splice, f0, f1]) rfl rfl (by simp [-splice, f0, f1]) (.cons (.free (freeL_encs fr39 _)) (.cons (.free (by simp [free, fr1])) (.nil))) (.inl ⟨rfl, rfl⟩) (fun t' ht' => ?_)
  subst ht'
  refine evY_sound (f := 4) ?_; simp [-splice, f0, f1]
  have hq := Option.some.inj h; subst hq
  exact (hr _ _ _ (.sc (.bool (decide (0 ≤ x1)))) ([]) (by simp [-splice, f0, f1]) (.inr (.inr (.free (rfl))))).1
theorem ok_ast_every_api_Pat_1 (F : Nat) (a0 : api_Pat) (φ1 : api_Pat → Option Bool) (g1 : FuncId) (first1 caps1 : List AV) (fr1 : freeL first1 = true ∧ freeL caps1 = true) (hφ1 : ∀ y0 r, φ1 y0 = some r → RunF Tryz.prog T.T g1 (first1 ++ [.agg (c39 y0)] ++ caps1) (.sc (.bool r))) (r : Bool) (h : ast_every_api_Pat_1 F a0 φ1 = some r) : RunF Tryz.prog T.T 183 [.agg (c39 a0), .sh [.fn (.func g1) first1 caps1]] (.sc (.bool r)) := by
  rw [ast_every_api_Pat_1] at h
  refine RunF.z Tryz.func183 rfl rfl rfl rfl rfl (fun C hr => ?_)
  refine Stk.gen (fun t H n => t 0 = .agg (c39 a0) ∧ t 1 = .sh [.fn (.func g1) first1 caps1]) ⟨by simp, by simp⟩ ?_
  rintro t H n ⟨f0, f1⟩
  refine evY_sound (f := 2) ?_; simp [-splice, f0, f1]
  refine Stk.gen (fun t H n => t 0 = .agg (c39 a0) ∧ t 1 = .sh [.fn (.func g1) first1 caps1]) (by and_intros <;> first | assumption | simp [-splice, f0, f1]) ?_
  clear f0 f1
  rintro t H n ⟨f0, f1⟩
  refine Stk.om (mop_box T.t39 (cs := c39 a0) (by show partOk (t 0) = true; rw [f0]; rfl) (by show cellsOf (t 0) = _; rw [f0]; rfl)) (by simp [f0, f1]) rfl (fun t' ht' => ?_)
  refine Stk.gen (fun t H n => ∃ b1, t 1 = .sh [.fn (.func g1) first1 caps1] ∧ t 2 = .own b1 0 ∧ H b1 = some (.cells (c39 a0) 39) ∧ b1 < n) ⟨n, by simp [ht', f1], by simp [ht'], upd_same _ _ _, Nat.lt_succ_self _⟩ ?_
  clear f0 f1 ht' t'
  rintro t H n ⟨b1, f1, f2, b_b1, l_b1⟩
  obtain ⟨x2, hx2, h⟩ := bnd h
  refine evY_sound (f := 6) ?_; simp [-splice, f1, f2, b_b1, ldF46, ld_39_0_39]
  refine Stk.cv (g := g1) (first := first1) (caps := caps1) (args := first1 ++ [.agg (c39 a0)] ++ caps1) (args' := first1 ++ [.agg (c39 a0)] ++ caps1) (v := .sc (.bool x2)) [] (hφ1 _ _ hx2) (by simp [-splice, f1, f2, b_b1, ldF46, ld_39_0_39]) rfl (by simp [-splice, f1, f2, b_b1, ldF46, ld_39_0_39]) (by simp [-splice, f1, f2, b_b1, ldF46, ld_39_0_39]) (viewL_mid (x := [.agg (c39 a0)]) (y := [.agg (c39 a0)]) fr1.1 fr1.2 (.cons (.free (fr39 _)) (.nil))) (.inl ⟨rfl, rfl⟩) (fun t' ht' => ?_)
  subst ht'
  refine evY_sound (f := 4) ?_; simp [-splice, f1, f2, b_b1, ldF46, ld_39_0_39]
  have hq := Option.some.inj h; subst hq
  exact (hr _ _ _ (.sc (.bool (!x2))) ([]) (by simp [-splice, f1, f2, b_b1, ldF46, ld_39_0_39]) (.inr (.inr (.free (rfl))))).1
theorem ok_ast_every_api_Pat (F : Nat) (a0 : (List api_Pat)) (a1 : Int) (a2 : Int) (φ3 : api_Pat → Option Bool) (g3 : FuncId) (first3 caps3 : List AV) (fr3 : freeL first3 = true ∧ freeL caps3 = true) (hφ3 : ∀ y0 r, φ3 y0 = some r → RunF Tryz.prog T.T g3 (first3 ++ [.agg (c39 y0)] ++ caps3) (.sc (.bool r))) (r : Bool) (h : ast_every_api_Pat F a0 a1 a2 φ3 = some r) : RunF Tryz.prog T.T 127 [.ssl (encs c39 a0) a0.length false, .sc (.int .i64 a1), .sc (.int .i64 a2), .fn (.func g3) first3 caps3] (.sc (.bool r)) := by
  rw [ast_every_api_Pat] at h
  refine RunF.z Tryz.func127 rfl rfl rfl rfl rfl (fun C hr => ?_)
  refine Stk.gen (fun t H n => t 0 = .ssl (encs c39 a0) a0.length false ∧ t 1 = .sc (.int .i64 a1) ∧ t 2 = .sc (.int .i64 a2) ∧ t 3 = .fn (.func g3) first3 caps3) ⟨by simp, by simp, by simp, by simp⟩ ?_
  rintro t H n ⟨f0, f1, f2, f3⟩
  refine evY_sound (f := 2) ?_; simp [-splice, f0, f1, f2, f3]
  refine Stk.gen (fun t H n => t 0 = .ssl (encs c39 a0) a0.length false ∧ t 1 = .sc (.int .i64 a1) ∧ t 2 = .sc (.int .i64 a2) ∧ t 3 = .fn (.func g3) first3 caps3) (by and_intros <;> first | assumption | simp [-splice, f0, f1, f2, f3]) ?_
  clear f0 f1 f2 f3
  rintro t H n ⟨f0, f1, f2, f3⟩
  refine Stk.om (mop_box T.t46 (cs := [.fn (.func g3) first3 caps3]) (by show partOk (t 3) = true; rw [f3]; rfl) (by show cellsOf (t 3) = _; rw [f3]; rfl)) (by simp [f0, f1, f2, f3]) rfl (fun t' ht' => ?_)
  refine Stk.gen (fun t H n => ∃ b1, t 0 = .ssl (encs c39 a0) a0.length false ∧ t 1 = .sc (.int .i64 a1) ∧ t 2 = .sc (.int .i64 a2) ∧ t 7 = .own b1 0 ∧ H b1 = some (.cells ([.fn (.func g3) first3 caps3]) 46) ∧ b1 < n) ⟨n, by simp [ht', f0], by simp [ht', f1], by simp [ht', f2], by simp [ht'], upd_same _ _ _, Nat.lt_succ_self _⟩ ?_
  clear f0 f1 f2 f3 ht' t'
  rintro t H n ⟨b1, f0, f1, f2, f7, b_b1, l_b1⟩
  refine evY_sound (f := 9) ?_; simp [-splice, f0, f1, f2, f7, b_b1]
  refine Stk.gd 5 13 18 (fun z => .sc (.bool (z && (decide ((a0.length : Int) ≤ a2))))) (w := decide (a1 ≤ (a0.length : Int))) (by simp [-splice, f0, f1, f2, f7, b_b1]) (by simp [-splice, f0, f1, f2, f7, b_b1]) (by simp [-splice, f0, f1, f2, f7, b_b1]) ?_; simp [-splice, f0, f1, f2, f7, b_b1]
  refine evY_sound (f := 1) ?_; simp [-splice, f0, f1, f2, f7, b_b1]
  refine Stk.gen (fun t H n => t 0 = .ssl (encs c39 a0) a0.length false ∧ t 7 = .own b1 0 ∧ t 19 = .sc (.bool ((decide (a1 ≤ (a0.length : Int))) && (decide ((a0.length : Int) ≤ a2)))) ∧ H b1 = some (.cells ([.fn (.func g3) first3 caps3]) 46) ∧ b1 < n) (by and_intros <;> first | assumption | simp [-splice, f0, f1, f2, f7, b_b1]) ?_
  clear f0 f1 f2 f7 b_b1 l_b1
  rintro t H n ⟨f0, f7, f19, b_b1, l_b1⟩
  obtain ⟨K1, hK1, h⟩ := jnd h
  refine Stk.jo 5 (fun t H n => ∃ v2 : Bool, K1 v2 = some r ∧ t 24 = .sc (.bool v2)) (fun J1 hJ1 => ?_) ?_
  · rcases Bool.eq_false_or_eq_true ((decide (a1 ≤ (a0.length : Int))) && (decide ((a0.length : Int) ≤ a2))) with hb1 | hb1
    · rw [hb1] at f19
      replace h := cT hb1 h
      obtain ⟨x3, hx3, h⟩ := bnd h
      refine evY_sound (f := 2) ?_; simp [-splice, f0, f7, f19, b_b1]
      refine Stk.cv (g := 182) (args := [.ssl (encs c39 a0) a0.length false, .fn (.func 183) [] [.own b1 0]]) (args' := [.ssl (encs c39 a0) a0.length false, .fn (.func 183) [] [.sh [.fn (.func g3) first3 caps3]]]) (v := .sc (.bool x3)) [b1] (ok_slices_ContainsFunc_api_Pat_api_Pat F _ _ 183 [] [.sh [.fn (.func g3) first3 caps3]] (by and_intros <;> first | assumption | simp [freeL, free, fr3]) (fun y0 r h => ok_ast_every_api_Pat_1 F y0 _ _ _ _ fr3 hφ3 r h) _ hx3) (by simp [-splice, f0, f7, f19, b_b1]) rfl rfl (by simp [-splice, f0, f7, f19, b_b1]) (.cons (.free (freeL_encs fr39 _)) (.cons (.fn .nil (.cons (view_blk b_b1 (by simp) (by simp [freeL, free, fr3])) (.nil))) (.nil))) (.inr rfl) (fun t' ht' => ?_)
      subst ht'
      refine evY_sound (f := 3) ?_; simp [-splice, f0, f7, f19, b_b1]
      exact Stk.ln 0 (by decide) (hJ1 _ _ _ ⟨(!x3), h, by simp [-splice, f0, f7, f19, b_b1]⟩)
    · rw [hb1] at f19
      replace h := cF hb1 h
      refine evY_sound (f := 6) ?_; simp [-splice, f0, f7, f19, b_b1]
      exact Stk.ln 0 (by decide) (hJ1 _ _ _ ⟨false, h, by simp [-splice, f0, f7, f19, b_b1]⟩)
  clear h f0 f7 f19 b_b1 l_b1
  rintro t H n ⟨v2, h, f24⟩
  subst hK1
  refine evY_sound (f := 3) ?_; simp [-splice, f24]
  have hq := Option.some.inj h; subst hq
  exact (hr _ _ _ (.sc (.bool v2)) ([]) (by simp [-splice, f24]) (.inr (.inr (.free (rfl))))).1
theorem okB_ast_depth_fitPat (F : Nat) (ρ49 : Int → api_Pat → Option Bool) (hρ49 : ∀ a0 a1 r, ρ49 a0 a1 = some r → RunF Tryz.prog T.T 49 [.sc (.int .i64 a0), .agg (c39 a1)] (.sc (.bool r))) (a0 : Int) (a1 : api_Pat) (r : Bool) (h : ast_depth_fitPat_B F ρ49 a0 a1 = some r) : RunF Tryz.prog T.T 49 [.sc (.int .i64 a0), .agg (c39 a1)] (.sc (.bool r)) := by
  rw [ast_depth_fitPat_B] at h
  refine RunF.z Tryz.func49 rfl rfl rfl rfl rfl (fun C hr => ?_)
  refine Stk.gen (fun t H n => t 0 = .sc (.int .i64 a0) ∧ t 1 = .agg (c39 a1)) ⟨by simp, by simp⟩ ?_
  rintro t H n ⟨f0, f1⟩
  refine evY_sound (f := 2) ?_; simp [-splice, f0, f1]
  refine Stk.gen (fun t H n => t 0 = .sc (.int .i64 a0) ∧ t 1 = .agg (c39 a1)) (by and_intros <;> first | assumption | simp [-splice, f0, f1]) ?_
  clear f0 f1
  rintro t H n ⟨f0, f1⟩
  refine Stk.om (mop_box T.t39 (cs := c39 a1) (by show partOk (t 1) = true; rw [f1]; rfl) (by show cellsOf (t 1) = _; rw [f1]; rfl)) (by simp [f0, f1]) rfl (fun t' ht' => ?_)
  refine Stk.gen (fun t H n => ∃ b1, t 0 = .sc (.int .i64 a0) ∧ t 3 = .own b1 0 ∧ H b1 = some (.cells (c39 a1) 39) ∧ b1 < n) ⟨n, by simp [ht', f0], by simp [ht'], upd_same _ _ _, Nat.lt_succ_self _⟩ ?_
  clear f0 f1 ht' t'
  rintro t H n ⟨b1, f0, f3, b_b1, l_b1⟩
  refine evY_sound (f := 8) ?_; simp [-splice, f0, f3, b_b1]
  refine Stk.gen (fun t H n => t 0 = .sc (.int .i64 a0) ∧ t 3 = .own b1 0 ∧ t 10 = .sc (.bool (decide (a0 < 1))) ∧ H b1 = some (.cells (c39 a1) 39) ∧ b1 < n) (by and_intros <;> first | assumption | simp [-splice, f0, f3, b_b1]) ?_
  clear f0 f3 b_b1 l_b1
  rintro t H n ⟨f0, f3, f10, b_b1, l_b1⟩
  refine Stk.jo 9 (fun t H n => t 0 = .sc (.int .i64 a0) ∧ t 3 = .own b1 0 ∧ t 19 = .sc (.bool ((decide (a0 < 1)) || ((a1.Num != 0) && (a1.Kind != 2)))) ∧ H b1 = some (.cells (c39 a1) 39) ∧ b1 < n) (fun J1 hJ1 => ?_) ?_
  · rcases Bool.eq_false_or_eq_true (decide (a0 < 1)) with hb1 | hb1
    · rw [hb1] at f10
      refine evY_sound (f := 10) ?_; simp [-splice, f0, f3, f10, b_b1]
      refine Stk.gen (fun t H n => t 0 = .sc (.int .i64 a0) ∧ t 3 = .own b1 0 ∧ t 19 = .sc (.bool true) ∧ H b1 = some (.cells (c39 a1) 39) ∧ b1 < n) (by and_intros <;> first | assumption | simp [-splice, f0, f3, f10, b_b1]) ?_
      clear f0 f3 f10 b_b1 l_b1
      rintro t H n ⟨f0, f3, f19, b_b1, l_b1⟩
      exact Stk.ln 0 (by decide) (hJ1 _ _ _ ⟨f0, f3, f19.trans (congrArg (fun q => AV.sc (.bool q)) (by rw [hb1]; rfl)), b_b1, l_b1⟩)
    · rw [hb1] at f10
      refine evY_sound (f := 4) ?_; simp [-splice, f0, f3, f10, b_b1, ld_39_4_2]
      refine Stk.gen (fun t H n => t 0 = .sc (.int .i64 a0) ∧ t 3 = .own b1 0 ∧ t 10 = .sc (.bool false) ∧ t 14 = .sc (.bool (a1.Num != 0)) ∧ H b1 = some (.cells (c39 a1) 39) ∧ b1 < n) (by and_intros <;> first | assumption | simp [-splice, f0, f3, f10, b_b1, ld_39_4_2]) ?_
      clear f0 f3 f10 b_b1 l_b1
      rintro t H n ⟨f0, f3, f10, f14, b_b1, l_b1⟩
      refine Stk.jo 4 (fun t H n => t 0 = .sc (.int .i64 a0) ∧ t 3 = .own b1 0 ∧ t 10 = .sc (.bool false) ∧ t 18 = .sc (.bool ((a1.Num != 0) && (a1.Kind != 2))) ∧ H b1 = some (.cells (c39 a1) 39) ∧ b1 < n) (fun J2 hJ2 => ?_) ?_
      · rcases Bool.eq_false_or_eq_true (a1.Num != 0) with hb2 | hb2
        · rw [hb2] at f14
          refine evY_sound (f := 5) ?_; simp [-splice, f0, f3, f10, f14, b_b1, ld_39_0_3]
          refine Stk.gen (fun t H n => t 0 = .sc (.int .i64 a0) ∧ t 3 = .own b1 0 ∧ t 10 = .sc (.bool false) ∧ t 18 = .sc (.bool (a1.Kind != 2)) ∧ H b1 = some (.cells (c39 a1) 39) ∧ b1 < n) (by and_intros <;> first | assumption | simp [-splice, f0, f3, f10, f14, b_b1, ld_39_0_3]) ?_
          clear f0 f3 f10 f14 b_b1 l_b1
          rintro t H n ⟨f0, f3, f10, f18, b_b1, l_b1⟩
          exact Stk.ln 0 (by decide) (hJ2 _ _ _ ⟨f0, f3, f10, f18.trans (congrArg (fun q => AV.sc (.bool q)) (by rw [hb2]; rfl)), b_b1, l_b1⟩)
        · rw [hb2] at f14
          refine evY_sound (f := 5) ?_; simp [-splice, f0, f3, f10, f14, b_b1]
          refine Stk.gen (fun t H n => t 0 = .sc (.int .i64 a0) ∧ t 3 = .own b1 0 ∧ t 10 = .sc (.bool false) ∧ t 18 = .sc (.bool false) ∧ H b1 = some (.cells (c39 a1) 39) ∧ b1 < n) (by and_intros <;> first | assumption | simp [-splice, f0, f3, f10, f14, b_b1]) ?_
          clear f0 f3 f10 f14 b_b1 l_b1
          rintro t H n ⟨f0, f3, f10, f18, b_b1, l_b1⟩
          exact Stk.ln 0 (by decide) (hJ2 _ _ _ ⟨f0, f3, f10, f18.trans (congrArg (fun q => AV.sc (.bool q)) (by rw [hb2]; rfl)), b_b1, l_b1⟩)
      clear f0 f3 f10 f14 b_b1 l_b1
      rintro t H n ⟨f0, f3, f10, f18, b_b1, l_b1⟩
      refine evY_sound (f := 2) ?_; simp [-splice, f0, f3, f10, f18, b_b1]
      refine Stk.gen (fun t H n => t 0 = .sc (.int .i64 a0) ∧ t 3 = .own b1 0 ∧ t 19 = .sc (.bool ((a1.Num != 0) && (a1.Kind != 2))) ∧ H b1 = some (.cells (c39 a1) 39) ∧ b1 < n) (by and_intros <;> first | assumption | simp [-splice, f0, f3, f10, f18, b_b1]) ?_
      clear f0 f3 f10 f18 b_b1 l_b1
      rintro t H n ⟨f0, f3, f19, b_b1, l_b1⟩
      exact Stk.ln 0 (by decide) (hJ1 _ _ _ ⟨f0, f3, f19.trans (congrArg (fun q => AV.sc (.bool q)) (by rw [hb1]; rfl)), b_b1, l_b1⟩)
  clear f0 f3 f10 b_b1 l_b1
  rintro t H n ⟨f0, f3, f19, b_b1, l_b1⟩
  refine evY_sound (f := 1) ?_; simp [-splice, f0, f3, f19, b_b1]
  refine Stk.cond ((decide (a0 < 1)) || ((a1.Num != 0) && (a1.Kind != 2))) (by simp [-splice, f0, f3, f19, b_b1]) (fun hb2 => ?_) (fun hb2 => ?_)
  ·have h := cT hb2 h
   refine evY_sound (f := 5) ?_; simp [-splice, f0, f3, f19, b_b1]
   have hq := Option.some.inj h; subst hq
   exact (hr _ _ _ (.sc (.bool false)) ([]) (by simp [-splice, f0, f3, f19, b_b1]) (.inr (.inr (.free (rfl))))).1
  ·have h := cF hb2 h
   refine evY_sound (f := 25) ?_; simp [-splice, f0, f3, f19, b_b1, ld_39_3_9, ld_39_0_3]
   obtain ⟨K3, hK3, h⟩ := jnd h
   refine Stk.jn (fun t H n => ∃ v3 : Int, ∃ v4 : Int, ∃ v5 : Bool, K3 v3 v4 v5 = some r ∧ t 0 = .sc (.int .i64 a0) ∧ t 3 = .own b1 0 ∧ t 5 = .sc (.int .i64 v3) ∧ t 6 = .sc (.int .i64 v4) ∧ t 7 = .sc (.bool v5) ∧ H b1 = some (.cells (c39 a1) 39) ∧ b1 < n) trivial (fun J3 hJ3 => ?_) ?_
   · skip
     refine Stk.cond (a1.Kind == 0) (by simp [-splice, f0, f3, f19, b_b1, ld_39_3_9, ld_39_0_3]) (fun hb6 => ?_) (fun hb6 => ?_)
     ·have h := cT hb6 h
      refine evY_sound (f := 1) ?_; simp [-splice, f0, f3, f19, b_b1, ld_39_3_9, ld_39_0_3]
      exact Stk.ln 0 (by decide) (hJ3 _ _ _ ⟨0, 0, (a1.Name.toList == (⟨#[]⟩ : ByteArray).toList), h, by and_intros <;> first | assumption | simp [-splice, f0, f3, f19, b_b1, ld_39_3_9, ld_39_0_3]⟩)
     ·have h := cF hb6 h
      refine evY_sound (f := 5) ?_; simp [-splice, f0, f3, f19, b_b1, ld_39_3_9, ld_39_0_3]
      refine Stk.cond (a1.Kind == 1) (by simp [-splice, f0, f3, f19, b_b1, ld_39_3_9, ld_39_0_3]) (fun hb7 => ?_) (fun hb7 => ?_)
      ·have h := cT hb7 h
       obtain ⟨x8, hx8, h⟩ := bnd h
       refine evY_sound (f := 3) ?_; simp [-splice, f0, f3, f19, b_b1, ld_39_3_9, ld_39_0_3]
       refine Stk.cv (g := 112) (args := [.sc (.string a1.Name)]) (args' := [.sc (.string a1.Name)]) (v := .sc (.bool x8)) [] (ok_ast_small F _ _ hx8) (by simp [-splice, f0, f3, f19, b_b1, ld_39_3_9, ld_39_0_3]) rfl rfl (by simp [-splice, f0, f3, f19, b_b1, ld_39_3_9, ld_39_0_3]) (.cons (.free (rfl)) (.nil)) (.inl ⟨rfl, rfl⟩) (fun t' ht' => ?_)
       subst ht'
       refine evY_sound (f := 2) ?_; simp [-splice, f0, f3, f19, b_b1, ld_39_3_9, ld_39_0_3]
       exact Stk.ln 0 (by decide) (hJ3 _ _ _ ⟨0, 0, x8, h, by and_intros <;> first | assumption | simp [-splice, f0, f3, f19, b_b1, ld_39_3_9, ld_39_0_3]⟩)
      ·have h := cF hb7 h
       refine evY_sound (f := 5) ?_; simp [-splice, f0, f3, f19, b_b1, ld_39_3_9, ld_39_0_3]
       refine Stk.cond (a1.Kind == 2) (by simp [-splice, f0, f3, f19, b_b1, ld_39_3_9, ld_39_0_3]) (fun hb9 => ?_) (fun hb9 => ?_)
       ·have h := cT hb9 h
        refine evY_sound (f := 3) ?_; simp [-splice, f0, f3, f19, b_b1, ld_39_3_9, ld_39_0_3]
        refine Stk.gen (fun t H n => t 0 = .sc (.int .i64 a0) ∧ t 3 = .own b1 0 ∧ t 5 = .sc (.int .i64 0) ∧ t 6 = .sc (.int .i64 0) ∧ t 35 = .sc (.bool (a1.Name.toList == (⟨#[]⟩ : ByteArray).toList)) ∧ H b1 = some (.cells (c39 a1) 39) ∧ b1 < n) (by and_intros <;> first | assumption | simp [-splice, f0, f3, f19, b_b1, ld_39_3_9, ld_39_0_3]) ?_
        clear f0 f3 f19 b_b1 l_b1
        rintro t H n ⟨f0, f3, f5, f6, f35, b_b1, l_b1⟩
        obtain ⟨K4, hK4, h⟩ := jnd h
        refine Stk.jo 4 (fun t H n => ∃ v10 : Bool, K4 v10 = some r ∧ t 0 = .sc (.int .i64 a0) ∧ t 3 = .own b1 0 ∧ t 5 = .sc (.int .i64 0) ∧ t 6 = .sc (.int .i64 0) ∧ t 39 = .sc (.bool v10) ∧ H b1 = some (.cells (c39 a1) 39) ∧ b1 < n) (fun J4 hJ4 => ?_) ?_
        · rcases Bool.eq_false_or_eq_true (a1.Name.toList == (⟨#[]⟩ : ByteArray).toList) with hb4 | hb4
          · rw [hb4] at f35
            replace h := cT hb4 h
            obtain ⟨x11, hx11, h⟩ := bnd h
            refine evY_sound (f := 2) ?_; simp [-splice, f0, f3, f5, f6, f35, b_b1, ld_39_4_2]
            refine Stk.cv (g := 125) (args := [.sc (.int .i64 a1.Num)]) (args' := [.sc (.int .i64 a1.Num)]) (v := .sc (.bool x11)) [] (ok_ast_number F _ _ hx11) (by simp [-splice, f0, f3, f5, f6, f35, b_b1, ld_39_4_2]) rfl rfl (by simp [-splice, f0, f3, f5, f6, f35, b_b1, ld_39_4_2]) (.cons (.free (rfl)) (.nil)) (.inl ⟨rfl, rfl⟩) (fun t' ht' => ?_)
            subst ht'
            refine evY_sound (f := 2) ?_; simp [-splice, f0, f3, f5, f6, f35, b_b1, ld_39_4_2]
            exact Stk.ln 0 (by decide) (hJ4 _ _ _ ⟨x11, h, by and_intros <;> first | assumption | simp [-splice, f0, f3, f5, f6, f35, b_b1, ld_39_4_2]⟩)
          · rw [hb4] at f35
            replace h := cF hb4 h
            refine evY_sound (f := 5) ?_; simp [-splice, f0, f3, f5, f6, f35, b_b1]
            exact Stk.ln 0 (by decide) (hJ4 _ _ _ ⟨false, h, by and_intros <;> first | assumption | simp [-splice, f0, f3, f5, f6, f35, b_b1]⟩)
        clear h f0 f3 f5 f6 f35 b_b1 l_b1
        rintro t H n ⟨v10, h, f0, f3, f5, f6, f39, b_b1, l_b1⟩
        subst hK4
        refine evY_sound (f := 2) ?_; simp [-splice, f0, f3, f5, f6, f39, b_b1]
        exact Stk.ln 0 (by decide) (hJ3 _ _ _ ⟨0, 0, v10, h, by and_intros <;> first | assumption | simp [-splice, f0, f3, f5, f6, f39, b_b1]⟩)
       ·have h := cF hb9 h
        refine evY_sound (f := 5) ?_; simp [-splice, f0, f3, f19, b_b1, ld_39_3_9, ld_39_0_3]
        refine Stk.cond (a1.Kind == 3) (by simp [-splice, f0, f3, f19, b_b1, ld_39_3_9, ld_39_0_3]) (fun hb12 => ?_) (fun hb12 => ?_)
        ·have h := cT hb12 h
         obtain ⟨x13, hx13, h⟩ := bnd h
         refine evY_sound (f := 3) ?_; simp [-splice, f0, f3, f19, b_b1, ld_39_3_9, ld_39_0_3]
         refine Stk.cv (g := 126) (args := [.sc (.string a1.Name)]) (args' := [.sc (.string a1.Name)]) (v := .sc (.bool x13)) [] (ok_ast_great F _ _ hx13) (by simp [-splice, f0, f3, f19, b_b1, ld_39_3_9, ld_39_0_3]) rfl rfl (by simp [-splice, f0, f3, f19, b_b1, ld_39_3_9, ld_39_0_3]) (.cons (.free (rfl)) (.nil)) (.inl ⟨rfl, rfl⟩) (fun t' ht' => ?_)
         subst ht'
         refine evY_sound (f := 3) ?_; simp [-splice, f0, f3, f19, b_b1, ld_39_3_9, ld_39_0_3]
         exact Stk.ln 0 (by decide) (hJ3 _ _ _ ⟨0, 6, x13, h, by and_intros <;> first | assumption | simp [-splice, f0, f3, f19, b_b1, ld_39_3_9, ld_39_0_3]⟩)
        ·have h := cF hb12 h
         refine evY_sound (f := 5) ?_; simp [-splice, f0, f3, f19, b_b1, ld_39_3_9, ld_39_0_3]
         refine Stk.cond (a1.Kind == 4) (by simp [-splice, f0, f3, f19, b_b1, ld_39_3_9, ld_39_0_3]) (fun hb14 => ?_) (fun hb14 => ?_)
         ·have h := cT hb14 h
          refine evY_sound (f := 4) ?_; simp [-splice, f0, f3, f19, b_b1, ld_39_3_9, ld_39_0_3]
          exact Stk.ln 0 (by decide) (hJ3 _ _ _ ⟨2, 6, (a1.Name.toList == (⟨#[]⟩ : ByteArray).toList), h, by and_intros <;> first | assumption | simp [-splice, f0, f3, f19, b_b1, ld_39_3_9, ld_39_0_3]⟩)
         ·have h := cF hb14 h
          refine evY_sound (f := 5) ?_; simp [-splice, f0, f3, f19, b_b1, ld_39_3_9, ld_39_0_3]
          have hq := Option.some.inj h; subst hq
          exact (hr _ _ _ (.sc (.bool false)) ([]) (by simp [-splice, f0, f3, f19, b_b1, ld_39_3_9, ld_39_0_3]) (.inr (.inr (.free (rfl))))).1
   clear h f0 f3 f19 b_b1 l_b1
   rintro t H n ⟨v3, v4, v5, h, f0, f3, f5, f6, f7, b_b1, l_b1⟩
   subst hK3
   refine evY_sound (f := 5) ?_; simp [-splice, f0, f3, f5, f6, f7, b_b1]
   refine Stk.gen (fun t H n => t 0 = .sc (.int .i64 a0) ∧ t 3 = .own b1 0 ∧ t 5 = .sc (.int .i64 v3) ∧ t 6 = .sc (.int .i64 v4) ∧ t 48 = .sc (.bool v5) ∧ H b1 = some (.cells (c39 a1) 39) ∧ b1 < n) (by and_intros <;> first | assumption | simp [-splice, f0, f3, f5, f6, f7, b_b1]) ?_
   clear f0 f3 f5 f6 f7 b_b1 l_b1
   rintro t H n ⟨f0, f3, f5, f6, f48, b_b1, l_b1⟩
   obtain ⟨K5, hK5, h⟩ := jnd h
   refine Stk.jo 9 (fun t H n => ∃ v15 : Bool, K5 v15 = some r ∧ t 57 = .sc (.bool v15)) (fun J5 hJ5 => ?_) ?_
   · rcases Bool.eq_false_or_eq_true v5 with hb5 | hb5
     · rw [hb5] at f48
       replace h := cT hb5 h
       obtain ⟨x16, hx16, h⟩ := bnd h
       refine evY_sound (f := 7) ?_; simp [-splice, f0, f3, f5, f6, f48, b_b1, ld_39_5_37]
       refine Stk.cv (g := 127) (args := [.ssl (encs c39 a1.Kids) a1.Kids.length false, .sc (.int .i64 v3), .sc (.int .i64 v4), .fn (.func 49) [.sc (.int .i64 (IntKind.i64.wrap (a0 - 1)))] []]) (args' := [.ssl (encs c39 a1.Kids) a1.Kids.length false, .sc (.int .i64 v3), .sc (.int .i64 v4), .fn (.func 49) [.sc (.int .i64 (IntKind.i64.wrap (a0 - 1)))] []]) (v := .sc (.bool x16)) [] (ok_ast_every_api_Pat F _ _ _ _ 49 [.sc (.int .i64 (IntKind.i64.wrap (a0 - 1)))] [] (by and_intros <;> first | assumption | simp [freeL, free]) (fun y0 r h => hρ49 _ y0 r h) _ hx16) (by simp [-splice, f0, f3, f5, f6, f48, b_b1, ld_39_5_37]) rfl rfl (by simp [-splice, f0, f3, f5, f6, f48, b_b1, ld_39_5_37]) (.cons (.free (freeL_encs fr39 _)) (.cons (.free (rfl)) (.cons (.free (rfl)) (.cons (.fn (.free (by simp [freeL, free])) (.nil)) (.nil))))) (.inl ⟨rfl, rfl⟩) (fun t' ht' => ?_)
       subst ht'
       refine evY_sound (f := 2) ?_; simp [-splice, f0, f3, f5, f6, f48, b_b1, ld_39_5_37]
       exact Stk.ln 0 (by decide) (hJ5 _ _ _ ⟨x16, h, by simp [-splice, f0, f3, f5, f6, f48, b_b1, ld_39_5_37]⟩)
     · rw [hb5] at f48
       replace h := cF hb5 h
       refine evY_sound (f := 10) ?_; simp [-splice, f0, f3, f5, f6, f48, b_b1]
       exact Stk.ln 0 (by decide) (hJ5 _ _ _ ⟨false, h, by simp [-splice, f0, f3, f5, f6, f48, b_b1]⟩)
   clear h f0 f3 f5 f6 f48 b_b1 l_b1
   rintro t H n ⟨v15, h, f57⟩
   subst hK5
   refine evY_sound (f := 3) ?_; simp [-splice, f57]
   have hq := Option.some.inj h; subst hq
   exact (hr _ _ _ (.sc (.bool v15)) ([]) (by simp [-splice, f57]) (.inr (.inr (.free (rfl))))).1
theorem okG_ast_depth_fitPat : ∀ F : Nat, (∀ (a0 : Int) (a1 : api_Pat) (r : Bool), ast_depth_fitPat F a0 a1 = some r → RunF Tryz.prog T.T 49 [.sc (.int .i64 a0), .agg (c39 a1)] (.sc (.bool r)))
  | 0 => (fun a0 a1 r h => by rw [ast_depth_fitPat] at h; cases h)
  | F + 1 => (fun a0 a1 r h => okB_ast_depth_fitPat F (ast_depth_fitPat F) (okG_ast_depth_fitPat F) a0 a1 r (by rw [ast_depth_fitPat] at h; exact h))
theorem ok_ast_depth_fitPat (F : Nat) (a0 : Int) (a1 : api_Pat) (r : Bool) (h : ast_depth_fitPat F a0 a1 = some r) : RunF Tryz.prog T.T 49 [.sc (.int .i64 a0), .agg (c39 a1)] (.sc (.bool r)) := (okG_ast_depth_fitPat F) a0 a1 r h
theorem okB_ast_depth_fitExpr (F : Nat) (ρ47 : Int → api_Expr → Option Bool) (ρ122 : Int → api_Arm → Option Bool) (hρ47 : ∀ a0 a1 r, ρ47 a0 a1 = some r → RunF Tryz.prog T.T 47 [.sc (.int .i64 a0), .agg (c33 a1)] (.sc (.bool r))) (hρ122 : ∀ a0 a1 r, ρ122 a0 a1 = some r → RunF Tryz.prog T.T 122 [.sc (.int .i64 a0), .agg (c68 a1)] (.sc (.bool r))) (a0 : Int) (a1 : api_Expr) (r : Bool) (h : ast_depth_fitExpr_B F ρ47 ρ122 a0 a1 = some r) : RunF Tryz.prog T.T 47 [.sc (.int .i64 a0), .agg (c33 a1)] (.sc (.bool r)) := by
  rw [ast_depth_fitExpr_B] at h
  refine RunF.z Tryz.func47 rfl rfl rfl rfl rfl (fun C hr => ?_)
  refine Stk.gen (fun t H n => t 0 = .sc (.int .i64 a0) ∧ t 1 = .agg (c33 a1)) ⟨by simp, by simp⟩ ?_
  rintro t H n ⟨f0, f1⟩
  refine evY_sound (f := 2) ?_; simp [-splice, f0, f1]
  refine Stk.gen (fun t H n => t 0 = .sc (.int .i64 a0) ∧ t 1 = .agg (c33 a1)) (by and_intros <;> first | assumption | simp [-splice, f0, f1]) ?_
  clear f0 f1
  rintro t H n ⟨f0, f1⟩
  refine Stk.om (mop_box T.t33 (cs := c33 a1) (by show partOk (t 1) = true; rw [f1]; rfl) (by show cellsOf (t 1) = _; rw [f1]; rfl)) (by simp [f0, f1]) rfl (fun t' ht' => ?_)
  refine Stk.gen (fun t H n => ∃ b1, t 0 = .sc (.int .i64 a0) ∧ t 3 = .own b1 0 ∧ H b1 = some (.cells (c33 a1) 33) ∧ b1 < n) ⟨n, by simp [ht', f0], by simp [ht'], upd_same _ _ _, Nat.lt_succ_self _⟩ ?_
  clear f0 f1 ht' t'
  rintro t H n ⟨b1, f0, f3, b_b1, l_b1⟩
  obtain ⟨x2, hx2, h⟩ := bnd h
  refine evY_sound (f := 5) ?_; simp [-splice, f0, f3, b_b1, ld_33_0_33]
  refine Stk.cv (g := 120) (args := [.agg (c33 a1)]) (args' := [.agg (c33 a1)]) (v := .tup [.agg (c153 x2.1), .sc (.bool x2.2)]) [] (ok_ast_of F _ _ hx2) (by simp [-splice, f0, f3, b_b1, ld_33_0_33]) rfl rfl (by simp [-splice, f0, f3, b_b1, ld_33_0_33]) (.cons (.free (fr33 _)) (.nil)) (.inl ⟨rfl, by simp [free, freeL, fr153]⟩) (fun t' ht' => ?_)
  subst ht'
  refine evY_sound (f := 3) ?_; simp [-splice, f0, f3, b_b1, ld_33_0_33]
  refine Stk.gen (fun t H n => t 0 = .sc (.int .i64 a0) ∧ t 3 = .own b1 0 ∧ t 10 = .agg (c153 x2.1) ∧ t 11 = .sc (.bool x2.2) ∧ H b1 = some (.cells (c33 a1) 33) ∧ b1 < n) (by and_intros <;> first | assumption | simp [-splice, f0, f3, b_b1, ld_33_0_33]) ?_
  clear f0 f3 b_b1 l_b1
  rintro t H n ⟨f0, f3, f10, f11, b_b1, l_b1⟩
  refine Stk.om (mop_alloc T.t153 (cs := c153 (ast_shape.mk false false false 0 0 false)) rfl) (by simp [f0, f3, f10, f11]) rfl (fun t' ht' => ?_)
  refine Stk.gen (fun t H n => ∃ b3, t 0 = .sc (.int .i64 a0) ∧ t 3 = .own b1 0 ∧ t 5 = .own b3 0 ∧ t 10 = .agg (c153 x2.1) ∧ t 11 = .sc (.bool x2.2) ∧ H b1 = some (.cells (c33 a1) 33) ∧ b1 < n ∧ H b3 = some (.cells (c153 (ast_shape.mk false false false 0 0 false)) 153) ∧ b3 < n ∧ b1 ≠ b3) ⟨n, by simp [ht', f0], by simp [ht', f3], by simp [ht'], by simp [ht', f10], by simp [ht', f11], (upd_ne _ _ (Nat.ne_of_lt l_b1)).trans b_b1, Nat.lt_succ_of_lt l_b1, upd_same _ _ _, Nat.lt_succ_self _, Nat.ne_of_lt l_b1⟩ ?_
  clear f0 f3 f10 f11 b_b1 l_b1 ht' t'
  rintro t H n ⟨b3, f0, f3, f5, f10, f11, b_b1, l_b1, b_b3, l_b3, d_b1_b3⟩
  refine Stk.om (mop_store (z := 6) rfl f5 b_b3 f10 (len153 _) (by rw [len153]; decide) (ok153 _) (st_153_0_153 _ _)) (by simp [f0, f3, f5, f10, f11]) rfl (fun t' ht' => ?_)
  refine Stk.gen (fun t H n => t 0 = .sc (.int .i64 a0) ∧ t 3 = .own b1 0 ∧ t 5 = .own b3 0 ∧ t 11 = .sc (.bool x2.2) ∧ H b1 = some (.cells (c33 a1) 33) ∧ b1 < n ∧ H b3 = some (.cells (c153 x2.1) 153) ∧ b3 < n ∧ b1 ≠ b3) ⟨by simp [ht', f0], by simp [ht', f3], by simp [ht', f5], by simp [ht', f11], (upd_ne _ _ d_b1_b3).trans b_b1, l_b1, upd_same _ _ _, l_b3, d_b1_b3⟩ ?_
  clear f0 f3 f5 f10 f11 b_b1 l_b1 b_b3 l_b3 d_b1_b3 ht' t'
  rintro t H n ⟨f0, f3, f5, f11, b_b1, l_b1, b_b3, l_b3, d_b1_b3⟩
  refine evY_sound (f := 8) ?_; simp [-splice, f0, f3, f5, f11, b_b1, b_b3]
  refine Stk.gd 3 14 17 (fun z => .sc (.bool (z || (!x2.2)))) (w := decide (a0 < 1)) (by simp [-splice, f0, f3, f5, f11, b_b1, b_b3]) (by simp [-splice, f0, f3, f5, f11, b_b1, b_b3]) (by simp [-splice, f0, f3, f5, f11, b_b1, b_b3]) ?_; simp [-splice, f0, f3, f5, f11, b_b1, b_b3]
  refine evY_sound (f := 1) ?_; simp [-splice, f0, f3, f5, f11, b_b1, b_b3]
  refine Stk.gen (fun t H n => t 0 = .sc (.int .i64 a0) ∧ t 3 = .own b1 0 ∧ t 5 = .own b3 0 ∧ t 18 = .sc (.bool ((decide (a0 < 1)) || (!x2.2))) ∧ H b1 = some (.cells (c33 a1) 33) ∧ b1 < n ∧ H b3 = some (.cells (c153 x2.1) 153) ∧ b3 < n ∧ b1 ≠ b3) (by and_intros <;> first | assumption | simp [-splice, f0, f3, f5, f11, b_b1, b_b3]) ?_
  clear f0 f3 f5 f11 b_b1 l_b1 b_b3 l_b3 d_b1_b3
  rintro t H n ⟨f0, f3, f5, f18, b_b1, l_b1, b_b3, l_b3, d_b1_b3⟩
  refine Stk.jo 9 (fun t H n => t 0 = .sc (.int .i64 a0) ∧ t 3 = .own b1 0 ∧ t 5 = .own b3 0 ∧ t 27 = .sc (.bool (((decide (a0 < 1)) || (!x2.2)) || ((!x2.1.named) && (!(a1.Name.toList == (⟨#[]⟩ : ByteArray).toList))))) ∧ H b1 = some (.cells (c33 a1) 33) ∧ b1 < n ∧ H b3 = some (.cells (c153 x2.1) 153) ∧ b3 < n ∧ b1 ≠ b3) (fun J1 hJ1 => ?_) ?_
  · rcases Bool.eq_false_or_eq_true ((decide (a0 < 1)) || (!x2.2)) with hb1 | hb1
    · rw [hb1] at f18
      refine evY_sound (f := 10) ?_; simp [-splice, f0, f3, f5, f18, b_b1, b_b3]
      refine Stk.gen (fun t H n => t 0 = .sc (.int .i64 a0) ∧ t 3 = .own b1 0 ∧ t 5 = .own b3 0 ∧ t 27 = .sc (.bool true) ∧ H b1 = some (.cells (c33 a1) 33) ∧ b1 < n ∧ H b3 = some (.cells (c153 x2.1) 153) ∧ b3 < n ∧ b1 ≠ b3) (by and_intros <;> first | assumption | simp [-splice, f0, f3, f5, f18, b_b1, b_b3]) ?_
      clear f0 f3 f5 f18 b_b1 l_b1 b_b3 l_b3 d_b1_b3
      rintro t H n ⟨f0, f3, f5, f27, b_b1, l_b1, b_b3, l_b3, d_b1_b3⟩
      exact Stk.ln 0 (by decide) (hJ1 _ _ _ ⟨f0, f3, f5, f27.trans (congrArg (fun q => AV.sc (.bool q)) (by rw [hb1]; rfl)), b_b1, l_b1, b_b3, l_b3, d_b1_b3⟩)
    · rw [hb1] at f18
      refine evY_sound (f := 4) ?_; simp [-splice, f0, f3, f5, f18, b_b1, b_b3, ld_153_0_4]
      refine Stk.gen (fun t H n => t 0 = .sc (.int .i64 a0) ∧ t 3 = .own b1 0 ∧ t 5 = .own b3 0 ∧ t 18 = .sc (.bool false) ∧ t 22 = .sc (.bool (!x2.1.named)) ∧ H b1 = some (.cells (c33 a1) 33) ∧ b1 < n ∧ H b3 = some (.cells (c153 x2.1) 153) ∧ b3 < n ∧ b1 ≠ b3) (by and_intros <;> first | assumption | simp [-splice, f0, f3, f5, f18, b_b1, b_b3, ld_153_0_4]) ?_
      clear f0 f3 f5 f18 b_b1 l_b1 b_b3 l_b3 d_b1_b3
      rintro t H n ⟨f0, f3, f5, f18, f22, b_b1, l_b1, b_b3, l_b3, d_b1_b3⟩
      refine Stk.jo 4 (fun t H n => t 0 = .sc (.int .i64 a0) ∧ t 3 = .own b1 0 ∧ t 5 = .own b3 0 ∧ t 18 = .sc (.bool false) ∧ t 26 = .sc (.bool ((!x2.1.named) && (!(a1.Name.toList == (⟨#[]⟩ : ByteArray).toList)))) ∧ H b1 = some (.cells (c33 a1) 33) ∧ b1 < n ∧ H b3 = some (.cells (c153 x2.1) 153) ∧ b3 < n ∧ b1 ≠ b3) (fun J2 hJ2 => ?_) ?_
      · rcases Bool.eq_false_or_eq_true (!x2.1.named) with hb2 | hb2
        · rw [hb2] at f22
          refine evY_sound (f := 5) ?_; simp [-splice, f0, f3, f5, f18, f22, b_b1, b_b3, ld_33_5_9]
          refine Stk.gen (fun t H n => t 0 = .sc (.int .i64 a0) ∧ t 3 = .own b1 0 ∧ t 5 = .own b3 0 ∧ t 18 = .sc (.bool false) ∧ t 26 = .sc (.bool (!(a1.Name.toList == (⟨#[]⟩ : ByteArray).toList))) ∧ H b1 = some (.cells (c33 a1) 33) ∧ b1 < n ∧ H b3 = some (.cells (c153 x2.1) 153) ∧ b3 < n ∧ b1 ≠ b3) (by and_intros <;> first | assumption | simp [-splice, f0, f3, f5, f18, f22, b_b1, b_b3, ld_33_5_9]) ?_
          clear f0 f3 f5 f18 f22 b_b1 l_b1 b_b3 l_b3 d_b1_b3
          rintro t H n ⟨f0, f3, f5, f18, f26, b_b1, l_b1, b_b3, l_b3, d_b1_b3⟩
          exact Stk.ln 0 (by decide) (hJ2 _ _ _ ⟨f0, f3, f5, f18, f26.trans (congrArg (fun q => AV.sc (.bool q)) (by rw [hb2]; rfl)), b_b1, l_b1, b_b3, l_b3, d_b1_b3⟩)
        · rw [hb2] at f22
          refine evY_sound (f := 5) ?_; simp [-splice, f0, f3, f5, f18, f22, b_b1, b_b3]
          refine Stk.gen (fun t H n => t 0 = .sc (.int .i64 a0) ∧ t 3 = .own b1 0 ∧ t 5 = .own b3 0 ∧ t 18 = .sc (.bool false) ∧ t 26 = .sc (.bool false) ∧ H b1 = some (.cells (c33 a1) 33) ∧ b1 < n ∧ H b3 = some (.cells (c153 x2.1) 153) ∧ b3 < n ∧ b1 ≠ b3) (by and_intros <;> first | assumption | simp [-splice, f0, f3, f5, f18, f22, b_b1, b_b3]) ?_
          clear f0 f3 f5 f18 f22 b_b1 l_b1 b_b3 l_b3 d_b1_b3
          rintro t H n ⟨f0, f3, f5, f18, f26, b_b1, l_b1, b_b3, l_b3, d_b1_b3⟩
          exact Stk.ln 0 (by decide) (hJ2 _ _ _ ⟨f0, f3, f5, f18, f26.trans (congrArg (fun q => AV.sc (.bool q)) (by rw [hb2]; rfl)), b_b1, l_b1, b_b3, l_b3, d_b1_b3⟩)
      clear f0 f3 f5 f18 f22 b_b1 l_b1 b_b3 l_b3 d_b1_b3
      rintro t H n ⟨f0, f3, f5, f18, f26, b_b1, l_b1, b_b3, l_b3, d_b1_b3⟩
      refine evY_sound (f := 2) ?_; simp [-splice, f0, f3, f5, f18, f26, b_b1, b_b3]
      refine Stk.gen (fun t H n => t 0 = .sc (.int .i64 a0) ∧ t 3 = .own b1 0 ∧ t 5 = .own b3 0 ∧ t 27 = .sc (.bool ((!x2.1.named) && (!(a1.Name.toList == (⟨#[]⟩ : ByteArray).toList)))) ∧ H b1 = some (.cells (c33 a1) 33) ∧ b1 < n ∧ H b3 = some (.cells (c153 x2.1) 153) ∧ b3 < n ∧ b1 ≠ b3) (by and_intros <;> first | assumption | simp [-splice, f0, f3, f5, f18, f26, b_b1, b_b3]) ?_
      clear f0 f3 f5 f18 f26 b_b1 l_b1 b_b3 l_b3 d_b1_b3
      rintro t H n ⟨f0, f3, f5, f27, b_b1, l_b1, b_b3, l_b3, d_b1_b3⟩
      exact Stk.ln 0 (by decide) (hJ1 _ _ _ ⟨f0, f3, f5, f27.trans (congrArg (fun q => AV.sc (.bool q)) (by rw [hb1]; rfl)), b_b1, l_b1, b_b3, l_b3, d_b1_b3⟩)
  clear f0 f3 f5 f18 b_b1 l_b1 b_b3 l_b3 d_b1_b3
  rintro t H n ⟨f0, f3, f5, f27, b_b1, l_b1, b_b3, l_b3, d_b1_b3⟩
  refine evY_sound (f := 1) ?_; simp [-splice, f0, f3, f5, f27, b_b1, b_b3]
  refine Stk.gen (fun t H n => t 0 = .sc (.int .i64 a0) ∧ t 3 = .own b1 0 ∧ t 5 = .own b3 0 ∧ t 28 = .sc (.bool (((decide (a0 < 1)) || (!x2.2)) || ((!x2.1.named) && (!(a1.Name.toList == (⟨#[]⟩ : ByteArray).toList))))) ∧ H b1 = some (.cells (c33 a1) 33) ∧ b1 < n ∧ H b3 = some (.cells (c153 x2.1) 153) ∧ b3 < n ∧ b1 ≠ b3) (by and_intros <;> first | assumption | simp [-splice, f0, f3, f5, f27, b_b1, b_b3]) ?_
  clear f0 f3 f5 f27 b_b1 l_b1 b_b3 l_b3 d_b1_b3
  rintro t H n ⟨f0, f3, f5, f28, b_b1, l_b1, b_b3, l_b3, d_b1_b3⟩
  refine Stk.jo 9 (fun t H n => t 0 = .sc (.int .i64 a0) ∧ t 3 = .own b1 0 ∧ t 5 = .own b3 0 ∧ t 37 = .sc (.bool ((((decide (a0 < 1)) || (!x2.2)) || ((!x2.1.named) && (!(a1.Name.toList == (⟨#[]⟩ : ByteArray).toList)))) || ((!x2.1.numbered) && (a1.Num != 0)))) ∧ H b1 = some (.cells (c33 a1) 33) ∧ b1 < n ∧ H b3 = some (.cells (c153 x2.1) 153) ∧ b3 < n ∧ b1 ≠ b3) (fun J3 hJ3 => ?_) ?_
  · rcases Bool.eq_false_or_eq_true (((decide (a0 < 1)) || (!x2.2)) || ((!x2.1.named) && (!(a1.Name.toList == (⟨#[]⟩ : ByteArray).toList)))) with hb3 | hb3
    · rw [hb3] at f28
      refine evY_sound (f := 10) ?_; simp [-splice, f0, f3, f5, f28, b_b1, b_b3]
      refine Stk.gen (fun t H n => t 0 = .sc (.int .i64 a0) ∧ t 3 = .own b1 0 ∧ t 5 = .own b3 0 ∧ t 37 = .sc (.bool true) ∧ H b1 = some (.cells (c33 a1) 33) ∧ b1 < n ∧ H b3 = some (.cells (c153 x2.1) 153) ∧ b3 < n ∧ b1 ≠ b3) (by and_intros <;> first | assumption | simp [-splice, f0, f3, f5, f28, b_b1, b_b3]) ?_
      clear f0 f3 f5 f28 b_b1 l_b1 b_b3 l_b3 d_b1_b3
      rintro t H n ⟨f0, f3, f5, f37, b_b1, l_b1, b_b3, l_b3, d_b1_b3⟩
      exact Stk.ln 0 (by decide) (hJ3 _ _ _ ⟨f0, f3, f5, f37.trans (congrArg (fun q => AV.sc (.bool q)) (by rw [hb3]; rfl)), b_b1, l_b1, b_b3, l_b3, d_b1_b3⟩)
    · rw [hb3] at f28
      refine evY_sound (f := 4) ?_; simp [-splice, f0, f3, f5, f28, b_b1, b_b3, ld_153_1_4]
      refine Stk.gen (fun t H n => t 0 = .sc (.int .i64 a0) ∧ t 3 = .own b1 0 ∧ t 5 = .own b3 0 ∧ t 28 = .sc (.bool false) ∧ t 32 = .sc (.bool (!x2.1.numbered)) ∧ H b1 = some (.cells (c33 a1) 33) ∧ b1 < n ∧ H b3 = some (.cells (c153 x2.1) 153) ∧ b3 < n ∧ b1 ≠ b3) (by and_intros <;> first | assumption | simp [-splice, f0, f3, f5, f28, b_b1, b_b3, ld_153_1_4]) ?_
      clear f0 f3 f5 f28 b_b1 l_b1 b_b3 l_b3 d_b1_b3
      rintro t H n ⟨f0, f3, f5, f28, f32, b_b1, l_b1, b_b3, l_b3, d_b1_b3⟩
      refine Stk.jo 4 (fun t H n => t 0 = .sc (.int .i64 a0) ∧ t 3 = .own b1 0 ∧ t 5 = .own b3 0 ∧ t 28 = .sc (.bool false) ∧ t 36 = .sc (.bool ((!x2.1.numbered) && (a1.Num != 0))) ∧ H b1 = some (.cells (c33 a1) 33) ∧ b1 < n ∧ H b3 = some (.cells (c153 x2.1) 153) ∧ b3 < n ∧ b1 ≠ b3) (fun J4 hJ4 => ?_) ?_
      · rcases Bool.eq_false_or_eq_true (!x2.1.numbered) with hb4 | hb4
        · rw [hb4] at f32
          refine evY_sound (f := 5) ?_; simp [-splice, f0, f3, f5, f28, f32, b_b1, b_b3, ld_33_3_2]
          refine Stk.gen (fun t H n => t 0 = .sc (.int .i64 a0) ∧ t 3 = .own b1 0 ∧ t 5 = .own b3 0 ∧ t 28 = .sc (.bool false) ∧ t 36 = .sc (.bool (a1.Num != 0)) ∧ H b1 = some (.cells (c33 a1) 33) ∧ b1 < n ∧ H b3 = some (.cells (c153 x2.1) 153) ∧ b3 < n ∧ b1 ≠ b3) (by and_intros <;> first | assumption | simp [-splice, f0, f3, f5, f28, f32, b_b1, b_b3, ld_33_3_2]) ?_
          clear f0 f3 f5 f28 f32 b_b1 l_b1 b_b3 l_b3 d_b1_b3
          rintro t H n ⟨f0, f3, f5, f28, f36, b_b1, l_b1, b_b3, l_b3, d_b1_b3⟩
          exact Stk.ln 0 (by decide) (hJ4 _ _ _ ⟨f0, f3, f5, f28, f36.trans (congrArg (fun q => AV.sc (.bool q)) (by rw [hb4]; rfl)), b_b1, l_b1, b_b3, l_b3, d_b1_b3⟩)
        · rw [hb4] at f32
          refine evY_sound (f := 5) ?_; simp [-splice, f0, f3, f5, f28, f32, b_b1, b_b3]
          refine Stk.gen (fun t H n => t 0 = .sc (.int .i64 a0) ∧ t 3 = .own b1 0 ∧ t 5 = .own b3 0 ∧ t 28 = .sc (.bool false) ∧ t 36 = .sc (.bool false) ∧ H b1 = some (.cells (c33 a1) 33) ∧ b1 < n ∧ H b3 = some (.cells (c153 x2.1) 153) ∧ b3 < n ∧ b1 ≠ b3) (by and_intros <;> first | assumption | simp [-splice, f0, f3, f5, f28, f32, b_b1, b_b3]) ?_
          clear f0 f3 f5 f28 f32 b_b1 l_b1 b_b3 l_b3 d_b1_b3
          rintro t H n ⟨f0, f3, f5, f28, f36, b_b1, l_b1, b_b3, l_b3, d_b1_b3⟩
          exact Stk.ln 0 (by decide) (hJ4 _ _ _ ⟨f0, f3, f5, f28, f36.trans (congrArg (fun q => AV.sc (.bool q)) (by rw [hb4]; rfl)), b_b1, l_b1, b_b3, l_b3, d_b1_b3⟩)
      clear f0 f3 f5 f28 f32 b_b1 l_b1 b_b3 l_b3 d_b1_b3
      rintro t H n ⟨f0, f3, f5, f28, f36, b_b1, l_b1, b_b3, l_b3, d_b1_b3⟩
      refine evY_sound (f := 2) ?_; simp [-splice, f0, f3, f5, f28, f36, b_b1, b_b3]
      refine Stk.gen (fun t H n => t 0 = .sc (.int .i64 a0) ∧ t 3 = .own b1 0 ∧ t 5 = .own b3 0 ∧ t 37 = .sc (.bool ((!x2.1.numbered) && (a1.Num != 0))) ∧ H b1 = some (.cells (c33 a1) 33) ∧ b1 < n ∧ H b3 = some (.cells (c153 x2.1) 153) ∧ b3 < n ∧ b1 ≠ b3) (by and_intros <;> first | assumption | simp [-splice, f0, f3, f5, f28, f36, b_b1, b_b3]) ?_
      clear f0 f3 f5 f28 f36 b_b1 l_b1 b_b3 l_b3 d_b1_b3
      rintro t H n ⟨f0, f3, f5, f37, b_b1, l_b1, b_b3, l_b3, d_b1_b3⟩
      exact Stk.ln 0 (by decide) (hJ3 _ _ _ ⟨f0, f3, f5, f37.trans (congrArg (fun q => AV.sc (.bool q)) (by rw [hb3]; rfl)), b_b1, l_b1, b_b3, l_b3, d_b1_b3⟩)
  clear f0 f3 f5 f28 b_b1 l_b1 b_b3 l_b3 d_b1_b3
  rintro t H n ⟨f0, f3, f5, f37, b_b1, l_b1, b_b3, l_b3, d_b1_b3⟩
  refine evY_sound (f := 1) ?_; simp [-splice, f0, f3, f5, f37, b_b1, b_b3]
  refine Stk.gen (fun t H n => t 0 = .sc (.int .i64 a0) ∧ t 3 = .own b1 0 ∧ t 5 = .own b3 0 ∧ t 38 = .sc (.bool ((((decide (a0 < 1)) || (!x2.2)) || ((!x2.1.named) && (!(a1.Name.toList == (⟨#[]⟩ : ByteArray).toList)))) || ((!x2.1.numbered) && (a1.Num != 0)))) ∧ H b1 = some (.cells (c33 a1) 33) ∧ b1 < n ∧ H b3 = some (.cells (c153 x2.1) 153) ∧ b3 < n ∧ b1 ≠ b3) (by and_intros <;> first | assumption | simp [-splice, f0, f3, f5, f37, b_b1, b_b3]) ?_
  clear f0 f3 f5 f37 b_b1 l_b1 b_b3 l_b3 d_b1_b3
  rintro t H n ⟨f0, f3, f5, f38, b_b1, l_b1, b_b3, l_b3, d_b1_b3⟩
  refine Stk.jo 10 (fun t H n => t 0 = .sc (.int .i64 a0) ∧ t 3 = .own b1 0 ∧ t 5 = .own b3 0 ∧ t 48 = .sc (.bool (((((decide (a0 < 1)) || (!x2.2)) || ((!x2.1.named) && (!(a1.Name.toList == (⟨#[]⟩ : ByteArray).toList)))) || ((!x2.1.numbered) && (a1.Num != 0))) || ((!x2.1.bytes) && (decide (0 < (a1.Bytes.length : Int)))))) ∧ H b1 = some (.cells (c33 a1) 33) ∧ b1 < n ∧ H b3 = some (.cells (c153 x2.1) 153) ∧ b3 < n ∧ b1 ≠ b3) (fun J5 hJ5 => ?_) ?_
  · rcases Bool.eq_false_or_eq_true ((((decide (a0 < 1)) || (!x2.2)) || ((!x2.1.named) && (!(a1.Name.toList == (⟨#[]⟩ : ByteArray).toList)))) || ((!x2.1.numbered) && (a1.Num != 0))) with hb5 | hb5
    · rw [hb5] at f38
      refine evY_sound (f := 11) ?_; simp [-splice, f0, f3, f5, f38, b_b1, b_b3]
      refine Stk.gen (fun t H n => t 0 = .sc (.int .i64 a0) ∧ t 3 = .own b1 0 ∧ t 5 = .own b3 0 ∧ t 48 = .sc (.bool true) ∧ H b1 = some (.cells (c33 a1) 33) ∧ b1 < n ∧ H b3 = some (.cells (c153 x2.1) 153) ∧ b3 < n ∧ b1 ≠ b3) (by and_intros <;> first | assumption | simp [-splice, f0, f3, f5, f38, b_b1, b_b3]) ?_
      clear f0 f3 f5 f38 b_b1 l_b1 b_b3 l_b3 d_b1_b3
      rintro t H n ⟨f0, f3, f5, f48, b_b1, l_b1, b_b3, l_b3, d_b1_b3⟩
      exact Stk.ln 0 (by decide) (hJ5 _ _ _ ⟨f0, f3, f5, f48.trans (congrArg (fun q => AV.sc (.bool q)) (by rw [hb5]; rfl)), b_b1, l_b1, b_b3, l_b3, d_b1_b3⟩)
    · rw [hb5] at f38
      refine evY_sound (f := 4) ?_; simp [-splice, f0, f3, f5, f38, b_b1, b_b3, ld_153_2_4]
      refine Stk.gen (fun t H n => t 0 = .sc (.int .i64 a0) ∧ t 3 = .own b1 0 ∧ t 5 = .own b3 0 ∧ t 38 = .sc (.bool false) ∧ t 42 = .sc (.bool (!x2.1.bytes)) ∧ H b1 = some (.cells (c33 a1) 33) ∧ b1 < n ∧ H b3 = some (.cells (c153 x2.1) 153) ∧ b3 < n ∧ b1 ≠ b3) (by and_intros <;> first | assumption | simp [-splice, f0, f3, f5, f38, b_b1, b_b3, ld_153_2_4]) ?_
      clear f0 f3 f5 f38 b_b1 l_b1 b_b3 l_b3 d_b1_b3
      rintro t H n ⟨f0, f3, f5, f38, f42, b_b1, l_b1, b_b3, l_b3, d_b1_b3⟩
      refine Stk.jo 5 (fun t H n => t 0 = .sc (.int .i64 a0) ∧ t 3 = .own b1 0 ∧ t 5 = .own b3 0 ∧ t 38 = .sc (.bool false) ∧ t 47 = .sc (.bool ((!x2.1.bytes) && (decide (0 < (a1.Bytes.length : Int))))) ∧ H b1 = some (.cells (c33 a1) 33) ∧ b1 < n ∧ H b3 = some (.cells (c153 x2.1) 153) ∧ b3 < n ∧ b1 ≠ b3) (fun J6 hJ6 => ?_) ?_
      · rcases Bool.eq_false_or_eq_true (!x2.1.bytes) with hb6 | hb6
        · rw [hb6] at f42
          refine evY_sound (f := 6) ?_; simp [-splice, f0, f3, f5, f38, f42, b_b1, b_b3, ld_33_4_29]
          refine Stk.gen (fun t H n => t 0 = .sc (.int .i64 a0) ∧ t 3 = .own b1 0 ∧ t 5 = .own b3 0 ∧ t 38 = .sc (.bool false) ∧ t 47 = .sc (.bool (decide (0 < (a1.Bytes.length : Int)))) ∧ H b1 = some (.cells (c33 a1) 33) ∧ b1 < n ∧ H b3 = some (.cells (c153 x2.1) 153) ∧ b3 < n ∧ b1 ≠ b3) (by and_intros <;> first | assumption | simp [-splice, f0, f3, f5, f38, f42, b_b1, b_b3, ld_33_4_29]) ?_
          clear f0 f3 f5 f38 f42 b_b1 l_b1 b_b3 l_b3 d_b1_b3
          rintro t H n ⟨f0, f3, f5, f38, f47, b_b1, l_b1, b_b3, l_b3, d_b1_b3⟩
          exact Stk.ln 0 (by decide) (hJ6 _ _ _ ⟨f0, f3, f5, f38, f47.trans (congrArg (fun q => AV.sc (.bool q)) (by rw [hb6]; rfl)), b_b1, l_b1, b_b3, l_b3, d_b1_b3⟩)
        · rw [hb6] at f42
          refine evY_sound (f := 6) ?_; simp [-splice, f0, f3, f5, f38, f42, b_b1, b_b3]
          refine Stk.gen (fun t H n => t 0 = .sc (.int .i64 a0) ∧ t 3 = .own b1 0 ∧ t 5 = .own b3 0 ∧ t 38 = .sc (.bool false) ∧ t 47 = .sc (.bool false) ∧ H b1 = some (.cells (c33 a1) 33) ∧ b1 < n ∧ H b3 = some (.cells (c153 x2.1) 153) ∧ b3 < n ∧ b1 ≠ b3) (by and_intros <;> first | assumption | simp [-splice, f0, f3, f5, f38, f42, b_b1, b_b3]) ?_
          clear f0 f3 f5 f38 f42 b_b1 l_b1 b_b3 l_b3 d_b1_b3
          rintro t H n ⟨f0, f3, f5, f38, f47, b_b1, l_b1, b_b3, l_b3, d_b1_b3⟩
          exact Stk.ln 0 (by decide) (hJ6 _ _ _ ⟨f0, f3, f5, f38, f47.trans (congrArg (fun q => AV.sc (.bool q)) (by rw [hb6]; rfl)), b_b1, l_b1, b_b3, l_b3, d_b1_b3⟩)
      clear f0 f3 f5 f38 f42 b_b1 l_b1 b_b3 l_b3 d_b1_b3
      rintro t H n ⟨f0, f3, f5, f38, f47, b_b1, l_b1, b_b3, l_b3, d_b1_b3⟩
      refine evY_sound (f := 2) ?_; simp [-splice, f0, f3, f5, f38, f47, b_b1, b_b3]
      refine Stk.gen (fun t H n => t 0 = .sc (.int .i64 a0) ∧ t 3 = .own b1 0 ∧ t 5 = .own b3 0 ∧ t 48 = .sc (.bool ((!x2.1.bytes) && (decide (0 < (a1.Bytes.length : Int))))) ∧ H b1 = some (.cells (c33 a1) 33) ∧ b1 < n ∧ H b3 = some (.cells (c153 x2.1) 153) ∧ b3 < n ∧ b1 ≠ b3) (by and_intros <;> first | assumption | simp [-splice, f0, f3, f5, f38, f47, b_b1, b_b3]) ?_
      clear f0 f3 f5 f38 f47 b_b1 l_b1 b_b3 l_b3 d_b1_b3
      rintro t H n ⟨f0, f3, f5, f48, b_b1, l_b1, b_b3, l_b3, d_b1_b3⟩
      exact Stk.ln 0 (by decide) (hJ5 _ _ _ ⟨f0, f3, f5, f48.trans (congrArg (fun q => AV.sc (.bool q)) (by rw [hb5]; rfl)), b_b1, l_b1, b_b3, l_b3, d_b1_b3⟩)
  clear f0 f3 f5 f38 b_b1 l_b1 b_b3 l_b3 d_b1_b3
  rintro t H n ⟨f0, f3, f5, f48, b_b1, l_b1, b_b3, l_b3, d_b1_b3⟩
  refine evY_sound (f := 1) ?_; simp [-splice, f0, f3, f5, f48, b_b1, b_b3]
  refine Stk.cond (((((decide (a0 < 1)) || (!x2.2)) || ((!x2.1.named) && (!(a1.Name.toList == (⟨#[]⟩ : ByteArray).toList)))) || ((!x2.1.numbered) && (a1.Num != 0))) || ((!x2.1.bytes) && (decide (0 < (a1.Bytes.length : Int))))) (by simp [-splice, f0, f3, f5, f48, b_b1, b_b3]) (fun hb4 => ?_) (fun hb4 => ?_)
  ·have h := cT hb4 h
   refine evY_sound (f := 5) ?_; simp [-splice, f0, f3, f5, f48, b_b1, b_b3]
   have hq := Option.some.inj h; subst hq
   exact (hr _ _ _ (.sc (.bool false)) ([]) (by simp [-splice, f0, f3, f5, f48, b_b1, b_b3]) (.inr (.inr (.free (rfl))))).1
  ·have h := cF hb4 h
   refine evY_sound (f := 8) ?_; simp [-splice, f0, f3, f5, f48, b_b1, b_b3, ld_153_5_4]
   refine Stk.gd 5 52 57 (fun z => .sc (.bool (z && (decide (0 < (a1.Arms.length : Int)))))) (w := (!x2.1.arms)) (by simp [-splice, f0, f3, f5, f48, b_b1, b_b3, ld_153_5_4]) (by simp [-splice, f0, f3, f5, f48, b_b1, b_b3, ld_153_5_4, ld_33_7_31]) (by simp [-splice, f0, f3, f5, f48, b_b1, b_b3, ld_153_5_4, ld_33_7_31]) ?_; simp [-splice, f0, f3, f5, f48, b_b1, b_b3, ld_153_5_4]
   refine evY_sound (f := 1) ?_; simp [-splice, f0, f3, f5, f48, b_b1, b_b3, ld_153_5_4]
   refine Stk.gen (fun t H n => t 0 = .sc (.int .i64 a0) ∧ t 3 = .own b1 0 ∧ t 5 = .own b3 0 ∧ t 58 = .sc (.bool ((!x2.1.arms) && (decide (0 < (a1.Arms.length : Int))))) ∧ H b1 = some (.cells (c33 a1) 33) ∧ b1 < n ∧ H b3 = some (.cells (c153 x2.1) 153) ∧ b3 < n ∧ b1 ≠ b3) (by and_intros <;> first | assumption | simp [-splice, f0, f3, f5, f48, b_b1, b_b3, ld_153_5_4]) ?_
   clear f0 f3 f5 f48 b_b1 l_b1 b_b3 l_b3 d_b1_b3
   rintro t H n ⟨f0, f3, f5, f58, b_b1, l_b1, b_b3, l_b3, d_b1_b3⟩
   obtain ⟨K7, hK7, h⟩ := jnd h
   refine Stk.jo 12 (fun t H n => ∃ v5 : Bool, K7 v5 = some r ∧ t 0 = .sc (.int .i64 a0) ∧ t 3 = .own b1 0 ∧ t 5 = .own b3 0 ∧ t 70 = .sc (.bool v5) ∧ H b1 = some (.cells (c33 a1) 33) ∧ b1 < n ∧ H b3 = some (.cells (c153 x2.1) 153) ∧ b3 < n ∧ b1 ≠ b3) (fun J7 hJ7 => ?_) ?_
   · rcases Bool.eq_false_or_eq_true ((!x2.1.arms) && (decide (0 < (a1.Arms.length : Int)))) with hb7 | hb7
     · rw [hb7] at f58
       replace h := cT hb7 h
       refine evY_sound (f := 13) ?_; simp [-splice, f0, f3, f5, f58, b_b1, b_b3]
       exact Stk.ln 0 (by decide) (hJ7 _ _ _ ⟨true, h, by and_intros <;> first | assumption | simp [-splice, f0, f3, f5, f58, b_b1, b_b3]⟩)
     · rw [hb7] at f58
       replace h := cF hb7 h
       refine evY_sound (f := 3) ?_; simp [-splice, f0, f3, f5, f58, b_b1, b_b3, ld_153_5_4]
       refine Stk.gen (fun t H n => t 0 = .sc (.int .i64 a0) ∧ t 3 = .own b1 0 ∧ t 5 = .own b3 0 ∧ t 58 = .sc (.bool false) ∧ t 61 = .sc (.bool x2.1.arms) ∧ H b1 = some (.cells (c33 a1) 33) ∧ b1 < n ∧ H b3 = some (.cells (c153 x2.1) 153) ∧ b3 < n ∧ b1 ≠ b3) (by and_intros <;> first | assumption | simp [-splice, f0, f3, f5, f58, b_b1, b_b3, ld_153_5_4]) ?_
       clear f0 f3 f5 f58 b_b1 l_b1 b_b3 l_b3 d_b1_b3
       rintro t H n ⟨f0, f3, f5, f58, f61, b_b1, l_b1, b_b3, l_b3, d_b1_b3⟩
       obtain ⟨K8, hK8, h⟩ := jnd h
       refine Stk.jo 8 (fun t H n => ∃ v6 : Bool, K8 v6 = some r ∧ t 0 = .sc (.int .i64 a0) ∧ t 3 = .own b1 0 ∧ t 5 = .own b3 0 ∧ t 58 = .sc (.bool false) ∧ t 69 = .sc (.bool v6) ∧ H b1 = some (.cells (c33 a1) 33) ∧ b1 < n ∧ H b3 = some (.cells (c153 x2.1) 153) ∧ b3 < n ∧ b1 ≠ b3) (fun J8 hJ8 => ?_) ?_
       · rcases Bool.eq_false_or_eq_true x2.1.arms with hb8 | hb8
         · rw [hb8] at f61
           replace h := cT hb8 h
           obtain ⟨x7, hx7, h⟩ := bnd h
           refine evY_sound (f := 5) ?_; simp [-splice, f0, f3, f5, f58, f61, b_b1, b_b3, ld_33_7_31]
           refine Stk.cv (g := 121) (args := [.ssl (encs c68 a1.Arms) a1.Arms.length false, .sc (.int .i64 1), .sc (.int .i64 32), .fn (.func 122) [.sc (.int .i64 (IntKind.i64.wrap (a0 - 1)))] []]) (args' := [.ssl (encs c68 a1.Arms) a1.Arms.length false, .sc (.int .i64 1), .sc (.int .i64 32), .fn (.func 122) [.sc (.int .i64 (IntKind.i64.wrap (a0 - 1)))] []]) (v := .sc (.bool x7)) [] (ok_ast_every_api_Arm F _ _ _ _ 122 [.sc (.int .i64 (IntKind.i64.wrap (a0 - 1)))] [] (by and_intros <;> first | assumption | simp [freeL, free]) (fun y0 r h => hρ122 _ y0 r h) _ hx7) (by simp [-splice, f0, f3, f5, f58, f61, b_b1, b_b3, ld_33_7_31]) rfl rfl (by simp [-splice, f0, f3, f5, f58, f61, b_b1, b_b3, ld_33_7_31]) (.cons (.free (freeL_encs fr68 _)) (.cons (.free (rfl)) (.cons (.free (rfl)) (.cons (.fn (.free (by simp [freeL, free])) (.nil)) (.nil))))) (.inl ⟨rfl, rfl⟩) (fun t' ht' => ?_)
           subst ht'
           refine evY_sound (f := 3) ?_; simp [-splice, f0, f3, f5, f58, f61, b_b1, b_b3, ld_33_7_31]
           exact Stk.ln 0 (by decide) (hJ8 _ _ _ ⟨(!x7), h, by and_intros <;> first | assumption | simp [-splice, f0, f3, f5, f58, f61, b_b1, b_b3, ld_33_7_31]⟩)
         · rw [hb8] at f61
           replace h := cF hb8 h
           refine evY_sound (f := 9) ?_; simp [-splice, f0, f3, f5, f58, f61, b_b1, b_b3]
           exact Stk.ln 0 (by decide) (hJ8 _ _ _ ⟨false, h, by and_intros <;> first | assumption | simp [-splice, f0, f3, f5, f58, f61, b_b1, b_b3]⟩)
       clear h f0 f3 f5 f58 f61 b_b1 l_b1 b_b3 l_b3 d_b1_b3
       rintro t H n ⟨v6, h, f0, f3, f5, f58, f69, b_b1, l_b1, b_b3, l_b3, d_b1_b3⟩
       subst hK8
       refine evY_sound (f := 2) ?_; simp [-splice, f0, f3, f5, f58, f69, b_b1, b_b3]
       exact Stk.ln 0 (by decide) (hJ7 _ _ _ ⟨v6, h, by and_intros <;> first | assumption | simp [-splice, f0, f3, f5, f58, f69, b_b1, b_b3]⟩)
   clear h f0 f3 f5 f58 b_b1 l_b1 b_b3 l_b3 d_b1_b3
   rintro t H n ⟨v5, h, f0, f3, f5, f70, b_b1, l_b1, b_b3, l_b3, d_b1_b3⟩
   subst hK7
   refine evY_sound (f := 1) ?_; simp [-splice, f0, f3, f5, f70, b_b1, b_b3]
   refine Stk.cond v5 (by simp [-splice, f0, f3, f5, f70, b_b1, b_b3]) (fun hb8 => ?_) (fun hb8 => ?_)
   ·have h := cT hb8 h
    refine evY_sound (f := 5) ?_; simp [-splice, f0, f3, f5, f70, b_b1, b_b3]
    have hq := Option.some.inj h; subst hq
    exact (hr _ _ _ (.sc (.bool false)) ([]) (by simp [-splice, f0, f3, f5, f70, b_b1, b_b3]) (.inr (.inr (.free (rfl))))).1
   ·have h := cF hb8 h
    obtain ⟨x9, hx9, h⟩ := bnd h
    refine evY_sound (f := 12) ?_; simp [-splice, f0, f3, f5, f70, b_b1, b_b3, ld_33_6_30, ld_153_3_3, ld_153_4_3]
    refine Stk.cv (g := 123) (args := [.ssl (encs c33 a1.Kids) a1.Kids.length false, .sc (.int .i64 x2.1.least), .sc (.int .i64 x2.1.top), .fn (.func 47) [.sc (.int .i64 (IntKind.i64.wrap (a0 - 1)))] []]) (args' := [.ssl (encs c33 a1.Kids) a1.Kids.length false, .sc (.int .i64 x2.1.least), .sc (.int .i64 x2.1.top), .fn (.func 47) [.sc (.int .i64 (IntKind.i64.wrap (a0 - 1)))] []]) (v := .sc (.bool x9)) [] (ok_ast_every_api_Expr F _ _ _ _ 47 [.sc (.int .i64 (IntKind.i64.wrap (a0 - 1)))] [] (by and_intros <;> first | assumption | simp [freeL, free]) (fun y0 r h => hρ47 _ y0 r h) _ hx9) (by simp [-splice, f0, f3, f5, f70, b_b1, b_b3, ld_33_6_30, ld_153_3_3, ld_153_4_3]) rfl rfl (by simp [-splice, f0, f3, f5, f70, b_b1, b_b3, ld_33_6_30, ld_153_3_3, ld_153_4_3]) (.cons (.free (freeL_encs fr33 _)) (.cons (.free (rfl)) (.cons (.free (rfl)) (.cons (.fn (.free (by simp [freeL, free])) (.nil)) (.nil))))) (.inl ⟨rfl, rfl⟩) (fun t' ht' => ?_)
    subst ht'
    refine evY_sound (f := 3) ?_; simp [-splice, f0, f3, f5, f70, b_b1, b_b3, ld_33_6_30, ld_153_3_3, ld_153_4_3]
    have hq := Option.some.inj h; subst hq
    exact (hr _ _ _ (.sc (.bool x9)) ([]) (by simp [-splice, f0, f3, f5, f70, b_b1, b_b3, ld_33_6_30, ld_153_3_3, ld_153_4_3]) (.inr (.inr (.free (rfl))))).1
theorem okB_ast_depth_fitArm (F : Nat) (ρ47 : Int → api_Expr → Option Bool) (ρ122 : Int → api_Arm → Option Bool) (hρ47 : ∀ a0 a1 r, ρ47 a0 a1 = some r → RunF Tryz.prog T.T 47 [.sc (.int .i64 a0), .agg (c33 a1)] (.sc (.bool r))) (hρ122 : ∀ a0 a1 r, ρ122 a0 a1 = some r → RunF Tryz.prog T.T 122 [.sc (.int .i64 a0), .agg (c68 a1)] (.sc (.bool r))) (a0 : Int) (a1 : api_Arm) (r : Bool) (h : ast_depth_fitArm_B F ρ47 ρ122 a0 a1 = some r) : RunF Tryz.prog T.T 122 [.sc (.int .i64 a0), .agg (c68 a1)] (.sc (.bool r)) := by
  rw [ast_depth_fitArm_B] at h
  refine RunF.z Tryz.func122 rfl rfl rfl rfl rfl (fun C hr => ?_)
  refine Stk.gen (fun t H n => t 0 = .sc (.int .i64 a0) ∧ t 1 = .agg (c68 a1)) ⟨by simp, by simp⟩ ?_
  rintro t H n ⟨f0, f1⟩
  refine evY_sound (f := 2) ?_; simp [-splice, f0, f1]
  refine Stk.gen (fun t H n => t 0 = .sc (.int .i64 a0) ∧ t 1 = .agg (c68 a1)) (by and_intros <;> first | assumption | simp [-splice, f0, f1]) ?_
  clear f0 f1
  rintro t H n ⟨f0, f1⟩
  refine Stk.om (mop_box T.t68 (cs := c68 a1) (by show partOk (t 1) = true; rw [f1]; rfl) (by show cellsOf (t 1) = _; rw [f1]; rfl)) (by simp [f0, f1]) rfl (fun t' ht' => ?_)
  refine Stk.gen (fun t H n => ∃ b1, t 0 = .sc (.int .i64 a0) ∧ t 3 = .own b1 0 ∧ H b1 = some (.cells (c68 a1) 68) ∧ b1 < n) ⟨n, by simp [ht', f0], by simp [ht'], upd_same _ _ _, Nat.lt_succ_self _⟩ ?_
  clear f0 f1 ht' t'
  rintro t H n ⟨b1, f0, f3, b_b1, l_b1⟩
  obtain ⟨x2, hx2, h⟩ := bnd h
  refine evY_sound (f := 7) ?_; simp [-splice, f0, f3, b_b1, ld_68_0_39]
  refine Stk.cv (g := 49) (args := [.sc (.int .i64 a0), .agg (c39 a1.Pat)]) (args' := [.sc (.int .i64 a0), .agg (c39 a1.Pat)]) (v := .sc (.bool x2)) [] (ok_ast_depth_fitPat F _ _ _ hx2) (by simp [-splice, f0, f3, b_b1, ld_68_0_39]) rfl rfl (by simp [-splice, f0, f3, b_b1, ld_68_0_39]) (.cons (.free (rfl)) (.cons (.free (fr39 _)) (.nil))) (.inl ⟨rfl, rfl⟩) (fun t' ht' => ?_)
  subst ht'
  refine evY_sound (f := 1) ?_; simp [-splice, f0, f3, b_b1, ld_68_0_39]
  refine Stk.gen (fun t H n => t 0 = .sc (.int .i64 a0) ∧ t 3 = .own b1 0 ∧ t 9 = .sc (.bool x2) ∧ H b1 = some (.cells (c68 a1) 68) ∧ b1 < n) (by and_intros <;> first | assumption | simp [-splice, f0, f3, b_b1, ld_68_0_39]) ?_
  clear f0 f3 b_b1 l_b1
  rintro t H n ⟨f0, f3, f9, b_b1, l_b1⟩
  obtain ⟨K1, hK1, h⟩ := jnd h
  refine Stk.jo 5 (fun t H n => ∃ v3 : Bool, K1 v3 = some r ∧ t 14 = .sc (.bool v3)) (fun J1 hJ1 => ?_) ?_
  · rcases Bool.eq_false_or_eq_true x2 with hb1 | hb1
    · rw [hb1] at f9
      replace h := cT hb1 h
      obtain ⟨x4, hx4, h⟩ := bnd h
      refine evY_sound (f := 3) ?_; simp [-splice, f0, f3, f9, b_b1, ld_68_6_33]
      refine Stk.cv (g := 47) (args := [.sc (.int .i64 a0), .agg (c33 a1.Body)]) (args' := [.sc (.int .i64 a0), .agg (c33 a1.Body)]) (v := .sc (.bool x4)) [] (hρ47 _ _ _ hx4) (by simp [-splice, f0, f3, f9, b_b1, ld_68_6_33]) rfl rfl (by simp [-splice, f0, f3, f9, b_b1, ld_68_6_33]) (.cons (.free (rfl)) (.cons (.free (fr33 _)) (.nil))) (.inl ⟨rfl, rfl⟩) (fun t' ht' => ?_)
      subst ht'
      refine evY_sound (f := 2) ?_; simp [-splice, f0, f3, f9, b_b1, ld_68_6_33]
      exact Stk.ln 0 (by decide) (hJ1 _ _ _ ⟨x4, h, by simp [-splice, f0, f3, f9, b_b1, ld_68_6_33]⟩)
    · rw [hb1] at f9
      replace h := cF hb1 h
      refine evY_sound (f := 6) ?_; simp [-splice, f0, f3, f9, b_b1]
      exact Stk.ln 0 (by decide) (hJ1 _ _ _ ⟨false, h, by simp [-splice, f0, f3, f9, b_b1]⟩)
  clear h f0 f3 f9 b_b1 l_b1
  rintro t H n ⟨v3, h, f14⟩
  subst hK1
  refine evY_sound (f := 3) ?_; simp [-splice, f14]
  have hq := Option.some.inj h; subst hq
  exact (hr _ _ _ (.sc (.bool v3)) ([]) (by simp [-splice, f14]) (.inr (.inr (.free (rfl))))).1
theorem okG_ast_depth_fitExpr : ∀ F : Nat, (∀ (a0 : Int) (a1 : api_Expr) (r : Bool), ast_depth_fitExpr F a0 a1 = some r → RunF Tryz.prog T.T 47 [.sc (.int .i64 a0), .agg (c33 a1)] (.sc (.bool r))) ∧ (∀ (a0 : Int) (a1 : api_Arm) (r : Bool), ast_depth_fitArm F a0 a1 = some r → RunF Tryz.prog T.T 122 [.sc (.int .i64 a0), .agg (c68 a1)] (.sc (.bool r)))
  | 0 => ⟨(fun a0 a1 r h => by rw [ast_depth_fitExpr] at h; cases h), (fun a0 a1 r h => by rw [ast_depth_fitArm] at h; cases h)⟩
  | F + 1 => ⟨(fun a0 a1 r h => okB_ast_depth_fitExpr F (ast_depth_fitExpr F) (ast_depth_fitArm F) (okG_ast_depth_fitExpr F).1 (okG_ast_depth_fitExpr F).2 a0 a1 r (by rw [ast_depth_fitExpr] at h; exact h)), (fun a0 a1 r h => okB_ast_depth_fitArm F (ast_depth_fitExpr F) (ast_depth_fitArm F) (okG_ast_depth_fitExpr F).1 (okG_ast_depth_fitExpr F).2 a0 a1 r (by rw [ast_depth_fitArm] at h; exact h))⟩
theorem ok_ast_depth_fitExpr (F : Nat) (a0 : Int) (a1 : api_Expr) (r : Bool) (h : ast_depth_fitExpr F a0 a1 = some r) : RunF Tryz.prog T.T 47 [.sc (.int .i64 a0), .agg (c33 a1)] (.sc (.bool r)) := (okG_ast_depth_fitExpr F).1 a0 a1 r h
theorem ok_ast_FitExpr (F : Nat) (a0 : api_Expr) (r : Bool) (h : ast_FitExpr F a0 = some r) : RunF Tryz.prog T.T 14 [.agg (c33 a0)] (.sc (.bool r)) := by
  rw [ast_FitExpr] at h
  refine RunF.z Tryz.func14 rfl rfl rfl rfl rfl (fun C hr => ?_)
  refine Stk.gen (fun t H n => t 0 = .agg (c33 a0)) (by simp) ?_
  rintro t H n f0
  refine evY_sound (f := 2) ?_; simp [-splice, f0]
  refine Stk.gen (fun t H n => t 0 = .agg (c33 a0)) (by simp [-splice, f0]) ?_
  clear f0
  rintro t H n f0
  refine Stk.om (mop_box T.t33 (cs := c33 a0) (by show partOk (t 0) = true; rw [f0]; rfl) (by show cellsOf (t 0) = _; rw [f0]; rfl)) (by simp [f0]) rfl (fun t' ht' => ?_)
  refine Stk.gen (fun t H n => ∃ b1, t 1 = .own b1 0 ∧ H b1 = some (.cells (c33 a0) 33) ∧ b1 < n) ⟨n, by simp [ht'], upd_same _ _ _, Nat.lt_succ_self _⟩ ?_
  clear f0 ht' t'
  rintro t H n ⟨b1, f1, b_b1, l_b1⟩
  obtain ⟨x2, hx2, h⟩ := bnd h
  refine evY_sound (f := 5) ?_; simp [-splice, f1, b_b1, ld_33_0_33]
  refine Stk.cv (g := 47) (args := [.sc (.int .i64 64), .agg (c33 a0)]) (args' := [.sc (.int .i64 64), .agg (c33 a0)]) (v := .sc (.bool x2)) [] (ok_ast_depth_fitExpr F _ _ _ hx2) (by simp [-splice, f1, b_b1, ld_33_0_33]) rfl rfl (by simp [-splice, f1, b_b1, ld_33_0_33]) (.cons (.free (rfl)) (.cons (.free (fr33 _)) (.nil))) (.inl ⟨rfl, rfl⟩) (fun t' ht' => ?_)
  subst ht'
  refine evY_sound (f := 3) ?_; simp [-splice, f1, b_b1, ld_33_0_33]
  have hq := Option.some.inj h; subst hq
  exact (hr _ _ _ (.sc (.bool x2)) ([]) (by simp [-splice, f1, b_b1, ld_33_0_33]) (.inr (.inr (.free (rfl))))).1
theorem ok_slices_IndexFunc_api_Data_api_Data (F : Nat) (a0 : (List api_Data)) (φ1 : api_Data → Option Bool) (g1 : FuncId) (first1 caps1 : List AV) (fr1 : freeL first1 = true ∧ freeL caps1 = true) (hφ1 : ∀ y0 r, φ1 y0 = some r → RunF Tryz.prog T.T g1 (first1 ++ [.agg (c72 y0)] ++ caps1) (.sc (.bool r))) (r : Int) (h : slices_IndexFunc_api_Data_api_Data F a0 φ1 = some r) : RunF Tryz.prog T.T 166 [.ssl (encs c72 a0) a0.length false, .fn (.func g1) first1 caps1] (.sc (.int .i64 r)) := by
  rw [slices_IndexFunc_api_Data_api_Data] at h
  refine RunF.z Tryz.func166 rfl rfl rfl rfl rfl (fun C hr => ?_)
  refine Stk.gen (fun t H n => t 0 = .ssl (encs c72 a0) a0.length false ∧ t 1 = .fn (.func g1) first1 caps1) ⟨by simp, by simp⟩ ?_
  rintro t H n ⟨f0, f1⟩
  refine evY_sound (f := 12) ?_; simp [-splice, f0, f1]
  refine Stk.gen (fun t H n => t 0 = .ssl (encs c72 a0) a0.length false ∧ t 1 = .fn (.func g1) first1 caps1 ∧ t 7 = .sc (.int .i64 (a0.length : Int)) ∧ t 8 = .sc (.int .i64 0)) (by and_intros <;> first | assumption | simp [-splice, f0, f1]) ?_
  clear f0 f1
  rintro t H n ⟨f0, f1, f7, f8⟩
  refine Stk.lo (fun μ t H n => ∃ v1 : Int, slices_IndexFunc_api_Data_api_Data_L0 F a0 φ1 μ v1 = some r ∧ t 0 = .ssl (encs c72 a0) a0.length false ∧ t 1 = .fn (.func g1) first1 caps1 ∧ t 7 = .sc (.int .i64 (a0.length : Int)) ∧ t 8 = .sc (.int .i64 v1)) F ⟨0, h, f0, f1, f7, f8⟩ ?_
  clear h f0 f1 f7 f8
  rintro J1 hJ1 μ t H n ⟨v1, h, f0, f1, f7, f8⟩
  cases μ with
  | zero => exact absurd h (by simp [slices_IndexFunc_api_Data_api_Data_L0])
  | succ μ =>
  rw [slices_IndexFunc_api_Data_api_Data_L0] at h
  refine evY_sound (f := 5) ?_; simp [-splice, f0, f1, f7, f8]
  refine Stk.cond (decide (v1 < (a0.length : Int))) (by simp [-splice, f0, f1, f7, f8]) (fun hb3 => ?_) (fun hb3 => ?_)
  ·have h := cT hb3 h
   obtain ⟨x4, hx4, h⟩ := bnd h
   obtain ⟨i0x4, i1x4, i2x4, _⟩ := idx_ok hx4
   have ex4_0_72 : partOf T.T 72 (encs c72 a0) (v1.toNat * 4) = some (.agg (c72 x4)) := by
       have e0 := part_elem0 (e := c72) (z := 4) (T := T.T) (ty := 72) T.t72 (by decide) (by decide) hx4 0 (by decide)
       (try simp only [Nat.mul_one, Nat.add_zero] at e0)
       exact e0.trans (ld_72_0_72 _)
   obtain ⟨x5, hx5, h⟩ := bnd h
   refine evY_sound (f := 15) ?_; simp [-splice, f0, f1, f7, f8, i0x4, i1x4, pd72, ex4_0_72]
   refine Stk.cv (g := g1) (first := first1) (caps := caps1) (args := first1 ++ [.agg (c72 x4)] ++ caps1) (args' := first1 ++ [.agg (c72 x4)] ++ caps1) (v := .sc (.bool x5)) [] (hφ1 _ _ hx5) (by simp [-splice, f0, f1, f7, f8, i0x4, i1x4, pd72, ex4_0_72]) rfl (by simp [-splice, f0, f1, f7, f8, i0x4, i1x4, pd72, ex4_0_72]) (by simp [-splice, f0, f1, f7, f8, i0x4, i1x4, pd72, ex4_0_72]) (viewL_mid (x := [.agg (c72 x4)]) (y := [.agg (c72 x4)]) fr1.1 fr1.2 (.cons (.free (fr72 _)) (.nil))) (.inl ⟨rfl, rfl⟩) (fun t' ht' => ?_)
   subst ht'
   refine evY_sound (f := 1) ?_; simp [-splice, f0, f1, f7, f8, i0x4, i1x4, pd72, ex4_0_72]
   refine Stk.cond x5 (by simp [-splice, f0, f1, f7, f8, i0x4, i1x4, pd72, ex4_0_72]) (fun hb6 => ?_) (fun hb6 => ?_)
   ·have h := cT hb6 h
    refine evY_sound (f := 6) ?_; simp [-splice, f0, f1, f7, f8, i0x4, i1x4, pd72, ex4_0_72]
    have hq := Option.some.inj h; subst hq
    exact (hr _ _ _ (.sc (.int .i64 v1)) ([]) (by simp [-splice, f0, f1, f7, f8, i0x4, i1x4, pd72, ex4_0_72]) (.inr (.inr (.free (rfl))))).1
   ·have h := cF hb6 h
    refine evY_sound (f := 6) ?_; simp [-splice, f0, f1, f7, f8, i0x4, i1x4, pd72, ex4_0_72]
    exact Stk.ln μ (Nat.lt_succ_self _) (hJ1 _ _ _ _ ⟨(IntKind.i64.wrap (v1 + 1)), h, by and_intros <;> first | assumption | simp [-splice, f0, f1, f7, f8, i0x4, i1x4, pd72, ex4_0_72]⟩)
  ·have h := cF hb3 h
   refine Stk.ex rfl ?_
   refine evY_sound (f := 5) ?_; simp [-splice, f0, f1, f7, f8]
   have hq := Option.some.inj h; subst hq
   exact (hr _ _ _ (.sc (.int .i64 (-1))) ([]) (by simp [-splice, f0, f1, f7, f8]) (.inr (.inr (.free (rfl))))).1
theorem ok_slices_ContainsFunc_api_Data_api_Data (F : Nat) (a0 : (List api_Data)) (φ1 : api_Data → Option Bool) (g1 : FuncId) (first1 caps1 : List AV) (fr1 : freeL first1 = true ∧ freeL caps1 = true) (hφ1 : ∀ y0 r, φ1 y0 = some r → RunF Tryz.prog T.T g1 (first1 ++ [.agg (c72 y0)] ++ caps1) (.sc (.bool r))) (r : Bool) (h : slices_ContainsFunc_api_Data_api_Data F a0 φ1 = some r) : RunF Tryz.prog T.T 100 [.ssl (encs c72 a0) a0.length false, .fn (.func g1) first1 caps1] (.sc (.bool r)) := by
  rw [slices_ContainsFunc_api_Data_api_Data] at h
  refine RunF.z Tryz.func100 rfl rfl rfl rfl rfl (fun C hr => ?_)
  refine Stk.gen (fun t H n => t 0 = .ssl (encs c72 a0) a0.length false ∧ t 1 = .fn (.func g1) first1 caps1) ⟨by simp, by simp⟩ ?_
  rintro t H n ⟨f0, f1⟩
  obtain ⟨x1, hx1, h⟩ := bnd h
  refine evY_sound (f := 8) ?_; simp [-splice, f0, f1]
  refine Stk.cv (g := 166) (args := [.ssl (encs c72 a0) a0.length false, .fn (.func g1) first1 caps1]) (args' := [.ssl (encs c72 a0) a0.length false, .fn (.func g1) first1 caps1]) (v := .sc (.int .i64 x1)) [] (ok_slices_IndexFunc_api_Data_api_Data F _ _ _ _ _ fr1 hφ1 _ hx1) (by simp [-splice, f0, f1]) rfl rfl (by simp [-splice, f0, f1]) (.cons (.free (freeL_encs fr72 _)) (.cons (.free (by simp [free, fr1])) (.nil))) (.inl ⟨rfl, rfl⟩) (fun t' ht' => ?_)
  subst ht'
  refine evY_sound (f := 4) ?_; simp [-splice, f0, f1]
  have hq := Option.some.inj h; subst hq
  exact (hr _ _ _ (.sc (.bool (decide (0 ≤ x1)))) ([]) (by simp [-splice, f0, f1]) (.inr (.inr (.free (rfl))))).1
theorem ok_ast_every_api_Data_1 (F : Nat) (a0 : api_Data) (φ1 : api_Data → Option Bool) (g1 : FuncId) (first1 caps1 : List AV) (fr1 : freeL first1 = true ∧ freeL caps1 = true) (hφ1 : ∀ y0 r, φ1 y0 = some r → RunF Tryz.prog T.T g1 (first1 ++ [.agg (c72 y0)] ++ caps1) (.sc (.bool r))) (r : Bool) (h : ast_every_api_Data_1 F a0 φ1 = some r) : RunF Tryz.prog T.T 101 [.agg (c72 a0), .sh [.fn (.func g1) first1 caps1]] (.sc (.bool r)) := by
  rw [ast_every_api_Data_1] at h
  refine RunF.z Tryz.func101 rfl rfl rfl rfl rfl (fun C hr => ?_)
  refine Stk.gen (fun t H n => t 0 = .agg (c72 a0) ∧ t 1 = .sh [.fn (.func g1) first1 caps1]) ⟨by simp, by simp⟩ ?_
  rintro t H n ⟨f0, f1⟩
  refine evY_sound (f := 2) ?_; simp [-splice, f0, f1]
  refine Stk.gen (fun t H n => t 0 = .agg (c72 a0) ∧ t 1 = .sh [.fn (.func g1) first1 caps1]) (by and_intros <;> first | assumption | simp [-splice, f0, f1]) ?_
  clear f0 f1
  rintro t H n ⟨f0, f1⟩
  refine Stk.om (mop_box T.t72 (cs := c72 a0) (by show partOk (t 0) = true; rw [f0]; rfl) (by show cellsOf (t 0) = _; rw [f0]; rfl)) (by simp [f0, f1]) rfl (fun t' ht' => ?_)
  refine Stk.gen (fun t H n => ∃ b1, t 1 = .sh [.fn (.func g1) first1 caps1] ∧ t 2 = .own b1 0 ∧ H b1 = some (.cells (c72 a0) 72) ∧ b1 < n) ⟨n, by simp [ht', f1], by simp [ht'], upd_same _ _ _, Nat.lt_succ_self _⟩ ?_
  clear f0 f1 ht' t'
  rintro t H n ⟨b1, f1, f2, b_b1, l_b1⟩
  obtain ⟨x2, hx2, h⟩ := bnd h
  refine evY_sound (f := 6) ?_; simp [-splice, f1, f2, b_b1, ldF73, ld_72_0_72]
  refine Stk.cv (g := g1) (first := first1) (caps := caps1) (args := first1 ++ [.agg (c72 a0)] ++ caps1) (args' := first1 ++ [.agg (c72 a0)] ++ caps1) (v := .sc (.bool x2)) [] (hφ1 _ _ hx2) (by simp [-splice, f1, f2, b_b1, ldF73, ld_72_0_72]) rfl (by simp [-splice, f1, f2, b_b1, ldF73, ld_72_0_72]) (by simp [-splice, f1, f2, b_b1, ldF73, ld_72_0_72]) (viewL_mid (x := [.agg (c72 a0)]) (y := [.agg (c72 a0)]) fr1.1 fr1.2 (.cons (.free (fr72 _)) (.nil))) (.inl ⟨rfl, rfl⟩) (fun t' ht' => ?_)
  subst ht'
  refine evY_sound (f := 4) ?_; simp [-splice, f1, f2, b_b1, ldF73, ld_72_0_72]
  have hq := Option.some.inj h; subst hq
  exact (hr _ _ _ (.sc (.bool (!x2))) ([]) (by simp [-splice, f1, f2, b_b1, ldF73, ld_72_0_72]) (.inr (.inr (.free (rfl))))).1
theorem ok_ast_every_api_Data (F : Nat) (a0 : (List api_Data)) (a1 : Int) (a2 : Int) (φ3 : api_Data → Option Bool) (g3 : FuncId) (first3 caps3 : List AV) (fr3 : freeL first3 = true ∧ freeL caps3 = true) (hφ3 : ∀ y0 r, φ3 y0 = some r → RunF Tryz.prog T.T g3 (first3 ++ [.agg (c72 y0)] ++ caps3) (.sc (.bool r))) (r : Bool) (h : ast_every_api_Data F a0 a1 a2 φ3 = some r) : RunF Tryz.prog T.T 37 [.ssl (encs c72 a0) a0.length false, .sc (.int .i64 a1), .sc (.int .i64 a2), .fn (.func g3) first3 caps3] (.sc (.bool r)) := by
  rw [ast_every_api_Data] at h
  refine RunF.z Tryz.func37 rfl rfl rfl rfl rfl (fun C hr => ?_)
  refine Stk.gen (fun t H n => t 0 = .ssl (encs c72 a0) a0.length false ∧ t 1 = .sc (.int .i64 a1) ∧ t 2 = .sc (.int .i64 a2) ∧ t 3 = .fn (.func g3) first3 caps3) ⟨by simp, by simp, by simp, by simp⟩ ?_
  rintro t H n ⟨f0, f1, f2, f3⟩
  refine evY_sound (f := 2) ?_; simp [-splice, f0, f1, f2, f3]
  refine Stk.gen (fun t H n => t 0 = .ssl (encs c72 a0) a0.length false ∧ t 1 = .sc (.int .i64 a1) ∧ t 2 = .sc (.int .i64 a2) ∧ t 3 = .fn (.func g3) first3 caps3) (by and_intros <;> first | assumption | simp [-splice, f0, f1, f2, f3]) ?_
  clear f0 f1 f2 f3
  rintro t H n ⟨f0, f1, f2, f3⟩
  refine Stk.om (mop_box T.t73 (cs := [.fn (.func g3) first3 caps3]) (by show partOk (t 3) = true; rw [f3]; rfl) (by show cellsOf (t 3) = _; rw [f3]; rfl)) (by simp [f0, f1, f2, f3]) rfl (fun t' ht' => ?_)
  refine Stk.gen (fun t H n => ∃ b1, t 0 = .ssl (encs c72 a0) a0.length false ∧ t 1 = .sc (.int .i64 a1) ∧ t 2 = .sc (.int .i64 a2) ∧ t 7 = .own b1 0 ∧ H b1 = some (.cells ([.fn (.func g3) first3 caps3]) 73) ∧ b1 < n) ⟨n, by simp [ht', f0], by simp [ht', f1], by simp [ht', f2], by simp [ht'], upd_same _ _ _, Nat.lt_succ_self _⟩ ?_
  clear f0 f1 f2 f3 ht' t'
  rintro t H n ⟨b1, f0, f1, f2, f7, b_b1, l_b1⟩
  refine evY_sound (f := 9) ?_; simp [-splice, f0, f1, f2, f7, b_b1]
  refine Stk.gd 5 13 18 (fun z => .sc (.bool (z && (decide ((a0.length : Int) ≤ a2))))) (w := decide (a1 ≤ (a0.length : Int))) (by simp [-splice, f0, f1, f2, f7, b_b1]) (by simp [-splice, f0, f1, f2, f7, b_b1]) (by simp [-splice, f0, f1, f2, f7, b_b1]) ?_; simp [-splice, f0, f1, f2, f7, b_b1]
  refine evY_sound (f := 1) ?_; simp [-splice, f0, f1, f2, f7, b_b1]
  refine Stk.gen (fun t H n => t 0 = .ssl (encs c72 a0) a0.length false ∧ t 7 = .own b1 0 ∧ t 19 = .sc (.bool ((decide (a1 ≤ (a0.length : Int))) && (decide ((a0.length : Int) ≤ a2)))) ∧ H b1 = some (.cells ([.fn (.func g3) first3 caps3]) 73) ∧ b1 < n) (by and_intros <;> first | assumption | simp [-splice, f0, f1, f2, f7, b_b1]) ?_
  clear f0 f1 f2 f7 b_b1 l_b1
  rintro t H n ⟨f0, f7, f19, b_b1, l_b1⟩
  obtain ⟨K1, hK1, h⟩ := jnd h
  refine Stk.jo 5 (fun t H n => ∃ v2 : Bool, K1 v2 = some r ∧ t 24 = .sc (.bool v2)) (fun J1 hJ1 => ?_) ?_
  · rcases Bool.eq_false_or_eq_true ((decide (a1 ≤ (a0.length : Int))) && (decide ((a0.length : Int) ≤ a2))) with hb1 | hb1
    · rw [hb1] at f19
      replace h := cT hb1 h
      obtain ⟨x3, hx3, h⟩ := bnd h
      refine evY_sound (f := 2) ?_; simp [-splice, f0, f7, f19, b_b1]
      refine Stk.cv (g := 100) (args := [.ssl (encs c72 a0) a0.length false, .fn (.func 101) [] [.own b1 0]]) (args' := [.ssl (encs c72 a0) a0.length false, .fn (.func 101) [] [.sh [.fn (.func g3) first3 caps3]]]) (v := .sc (.bool x3)) [b1] (ok_slices_ContainsFunc_api_Data_api_Data F _ _ 101 [] [.sh [.fn (.func g3) first3 caps3]] (by and_intros <;> first | assumption | simp [freeL, free, fr3]) (fun y0 r h => ok_ast_every_api_Data_1 F y0 _ _ _ _ fr3 hφ3 r h) _ hx3) (by simp [-splice, f0, f7, f19, b_b1]) rfl rfl (by simp [-splice, f0, f7, f19, b_b1]) (.cons (.free (freeL_encs fr72 _)) (.cons (.fn .nil (.cons (view_blk b_b1 (by simp) (by simp [freeL, free, fr3])) (.nil))) (.nil))) (.inr rfl) (fun t' ht' => ?_)
      subst ht'
      refine evY_sound (f := 3) ?_; simp [-splice, f0, f7, f19, b_b1]
      exact Stk.ln 0 (by decide) (hJ1 _ _ _ ⟨(!x3), h, by simp [-splice, f0, f7, f19, b_b1]⟩)
    · rw [hb1] at f19
      replace h := cF hb1 h
      refine evY_sound (f := 6) ?_; simp [-splice, f0, f7, f19, b_b1]
      exact Stk.ln 0 (by decide) (hJ1 _ _ _ ⟨false, h, by simp [-splice, f0, f7, f19, b_b1]⟩)
  clear h f0 f7 f19 b_b1 l_b1
  rintro t H n ⟨v2, h, f24⟩
  subst hK1
  refine evY_sound (f := 3) ?_; simp [-splice, f24]
  have hq := Option.some.inj h; subst hq
  exact (hr _ _ _ (.sc (.bool v2)) ([]) (by simp [-splice, f24]) (.inr (.inr (.free (rfl))))).1
theorem ok_slices_IndexFunc_api_Con_api_Con (F : Nat) (a0 : (List api_Con)) (φ1 : api_Con → Option Bool) (g1 : FuncId) (first1 caps1 : List AV) (fr1 : freeL first1 = true ∧ freeL caps1 = true) (hφ1 : ∀ y0 r, φ1 y0 = some r → RunF Tryz.prog T.T g1 (first1 ++ [.agg (c92 y0)] ++ caps1) (.sc (.bool r))) (r : Int) (h : slices_IndexFunc_api_Con_api_Con F a0 φ1 = some r) : RunF Tryz.prog T.T 130 [.ssl (encs c92 a0) a0.length false, .fn (.func g1) first1 caps1] (.sc (.int .i64 r)) := by
  rw [slices_IndexFunc_api_Con_api_Con] at h
  refine RunF.z Tryz.func130 rfl rfl rfl rfl rfl (fun C hr => ?_)
  refine Stk.gen (fun t H n => t 0 = .ssl (encs c92 a0) a0.length false ∧ t 1 = .fn (.func g1) first1 caps1) ⟨by simp, by simp⟩ ?_
  rintro t H n ⟨f0, f1⟩
  refine evY_sound (f := 12) ?_; simp [-splice, f0, f1]
  refine Stk.gen (fun t H n => t 0 = .ssl (encs c92 a0) a0.length false ∧ t 1 = .fn (.func g1) first1 caps1 ∧ t 7 = .sc (.int .i64 (a0.length : Int)) ∧ t 8 = .sc (.int .i64 0)) (by and_intros <;> first | assumption | simp [-splice, f0, f1]) ?_
  clear f0 f1
  rintro t H n ⟨f0, f1, f7, f8⟩
  refine Stk.lo (fun μ t H n => ∃ v1 : Int, slices_IndexFunc_api_Con_api_Con_L0 F a0 φ1 μ v1 = some r ∧ t 0 = .ssl (encs c92 a0) a0.length false ∧ t 1 = .fn (.func g1) first1 caps1 ∧ t 7 = .sc (.int .i64 (a0.length : Int)) ∧ t 8 = .sc (.int .i64 v1)) F ⟨0, h, f0, f1, f7, f8⟩ ?_
  clear h f0 f1 f7 f8
  rintro J1 hJ1 μ t H n ⟨v1, h, f0, f1, f7, f8⟩
  cases μ with
  | zero => exact absurd h (by simp [slices_IndexFunc_api_Con_api_Con_L0])
  | succ μ =>
  rw [slices_IndexFunc_api_Con_api_Con_L0] at h
  refine evY_sound (f := 5) ?_; simp [-splice, f0, f1, f7, f8]
  refine Stk.cond (decide (v1 < (a0.length : Int))) (by simp [-splice, f0, f1, f7, f8]) (fun hb3 => ?_) (fun hb3 => ?_)
  ·have h := cT hb3 h
   obtain ⟨x4, hx4, h⟩ := bnd h
   obtain ⟨i0x4, i1x4, i2x4, _⟩ := idx_ok hx4
   have ex4_0_92 : partOf T.T 92 (encs c92 a0) (v1.toNat * 2) = some (.agg (c92 x4)) := by
       have e0 := part_elem0 (e := c92) (z := 2) (T := T.T) (ty := 92) T.t92 (by decide) (by decide) hx4 0 (by decide)
       (try simp only [Nat.mul_one, Nat.add_zero] at e0)
       exact e0.trans (ld_92_0_92 _)
   obtain ⟨x5, hx5, h⟩ := bnd h
   refine evY_sound (f := 15) ?_; simp [-splice, f0, f1, f7, f8, i0x4, i1x4, pd92, ex4_0_92]
   refine Stk.cv (g := g1) (first := first1) (caps := caps1) (args := first1 ++ [.agg (c92 x4)] ++ caps1) (args' := first1 ++ [.agg (c92 x4)] ++ caps1) (v := .sc (.bool x5)) [] (hφ1 _ _ hx5) (by simp [-splice, f0, f1, f7, f8, i0x4, i1x4, pd92, ex4_0_92]) rfl (by simp [-splice, f0, f1, f7, f8, i0x4, i1x4, pd92, ex4_0_92]) (by simp [-splice, f0, f1, f7, f8, i0x4, i1x4, pd92, ex4_0_92]) (viewL_mid (x := [.agg (c92 x4)]) (y := [.agg (c92 x4)]) fr1.1 fr1.2 (.cons (.free (fr92 _)) (.nil))) (.inl ⟨rfl, rfl⟩) (fun t' ht' => ?_)
   subst ht'
   refine evY_sound (f := 1) ?_; simp [-splice, f0, f1, f7, f8, i0x4, i1x4, pd92, ex4_0_92]
   refine Stk.cond x5 (by simp [-splice, f0, f1, f7, f8, i0x4, i1x4, pd92, ex4_0_92]) (fun hb6 => ?_) (fun hb6 => ?_)
   ·have h := cT hb6 h
    refine evY_sound (f := 6) ?_; simp [-splice, f0, f1, f7, f8, i0x4, i1x4, pd92, ex4_0_92]
    have hq := Option.some.inj h; subst hq
    exact (hr _ _ _ (.sc (.int .i64 v1)) ([]) (by simp [-splice, f0, f1, f7, f8, i0x4, i1x4, pd92, ex4_0_92]) (.inr (.inr (.free (rfl))))).1
   ·have h := cF hb6 h
    refine evY_sound (f := 6) ?_; simp [-splice, f0, f1, f7, f8, i0x4, i1x4, pd92, ex4_0_92]
    exact Stk.ln μ (Nat.lt_succ_self _) (hJ1 _ _ _ _ ⟨(IntKind.i64.wrap (v1 + 1)), h, by and_intros <;> first | assumption | simp [-splice, f0, f1, f7, f8, i0x4, i1x4, pd92, ex4_0_92]⟩)
  ·have h := cF hb3 h
   refine Stk.ex rfl ?_
   refine evY_sound (f := 5) ?_; simp [-splice, f0, f1, f7, f8]
   have hq := Option.some.inj h; subst hq
   exact (hr _ _ _ (.sc (.int .i64 (-1))) ([]) (by simp [-splice, f0, f1, f7, f8]) (.inr (.inr (.free (rfl))))).1
theorem ok_slices_ContainsFunc_api_Con_api_Con (F : Nat) (a0 : (List api_Con)) (φ1 : api_Con → Option Bool) (g1 : FuncId) (first1 caps1 : List AV) (fr1 : freeL first1 = true ∧ freeL caps1 = true) (hφ1 : ∀ y0 r, φ1 y0 = some r → RunF Tryz.prog T.T g1 (first1 ++ [.agg (c92 y0)] ++ caps1) (.sc (.bool r))) (r : Bool) (h : slices_ContainsFunc_api_Con_api_Con F a0 φ1 = some r) : RunF Tryz.prog T.T 56 [.ssl (encs c92 a0) a0.length false, .fn (.func g1) first1 caps1] (.sc (.bool r)) := by
  rw [slices_ContainsFunc_api_Con_api_Con] at h
  refine RunF.z Tryz.func56 rfl rfl rfl rfl rfl (fun C hr => ?_)
  refine Stk.gen (fun t H n => t 0 = .ssl (encs c92 a0) a0.length false ∧ t 1 = .fn (.func g1) first1 caps1) ⟨by simp, by simp⟩ ?_
  rintro t H n ⟨f0, f1⟩
  obtain ⟨x1, hx1, h⟩ := bnd h
  refine evY_sound (f := 8) ?_; simp [-splice, f0, f1]
  refine Stk.cv (g := 130) (args := [.ssl (encs c92 a0) a0.length false, .fn (.func g1) first1 caps1]) (args' := [.ssl (encs c92 a0) a0.length false, .fn (.func g1) first1 caps1]) (v := .sc (.int .i64 x1)) [] (ok_slices_IndexFunc_api_Con_api_Con F _ _ _ _ _ fr1 hφ1 _ hx1) (by simp [-splice, f0, f1]) rfl rfl (by simp [-splice, f0, f1]) (.cons (.free (freeL_encs fr92 _)) (.cons (.free (by simp [free, fr1])) (.nil))) (.inl ⟨rfl, rfl⟩) (fun t' ht' => ?_)
  subst ht'
  refine evY_sound (f := 4) ?_; simp [-splice, f0, f1]
  have hq := Option.some.inj h; subst hq
  exact (hr _ _ _ (.sc (.bool (decide (0 ≤ x1)))) ([]) (by simp [-splice, f0, f1]) (.inr (.inr (.free (rfl))))).1
end Go.Proofs.YtappiofmkoelnaaGreatDoor.M
end
section
namespace Go.Proofs.YtappiofmkoelnaaGreatDoor.M
open Go.Proofs.YtappiofmkoelnaaGreatDoorW.Ah Go.Proofs.YtappiofmkoelnaaGreatDoor
set_option linter.unusedVariables false
set_option linter.unusedSimpArgs false
set_option maxRecDepth 8000
attribute [local simp] T.t3 T.t4 T.t9 T.t22 T.t23 T.t24 T.t26 T.t33 T.t34 T.t36 T.t70 T.t72 T.t75 T.t77 T.t78 T.t81 T.t83 T.t84 T.t86 T.t92 T.t105 List.range List.range.loop
attribute [-simp] appendAV fillAV
theorem ok_ast_every_api_Con_1 (F : Nat) (a0 : api_Con) (φ1 : api_Con → Option Bool) (g1 : FuncId) (first1 caps1 : List AV) (fr1 : freeL first1 = true ∧ freeL caps1 = true) (hφ1 : ∀ y0 r, φ1 y0 = some r → RunF Tryz.prog T.T g1 (first1 ++ [.agg (c92 y0)] ++ caps1) (.sc (.bool r))) (r : Bool) (h : ast_every_api_Con_1 F a0 φ1 = some r) : RunF Tryz.prog T.T 167 [.agg (c92 a0), .sh [.fn (.func g1) first1 caps1]] (.sc (.bool r)) := by
  rw [ast_every_api_Con_1] at h
  refine RunF.z Tryz.func167 rfl rfl rfl rfl rfl (fun C hr => ?_)
  refine Stk.gen (fun t H n => t 0 = .agg (c92 a0) ∧ t 1 = .sh [.fn (.func g1) first1 caps1]) ⟨by simp, by simp⟩ ?_
  rintro t H n ⟨f0, f1⟩
  refine evY_sound (f := 2) ?_; simp [-splice, f0, f1]
  refine Stk.gen (fun t H n => t 0 = .agg (c92 a0) ∧ t 1 = .sh [.fn (.func g1) first1 caps1]) (by and_intros <;> first | assumption | simp [-splice, f0, f1]) ?_
  clear f0 f1
  rintro t H n ⟨f0, f1⟩
  refine Stk.om (mop_box T.t92 (cs := c92 a0) (by show partOk (t 0) = true; rw [f0]; rfl) (by show cellsOf (t 0) = _; rw [f0]; rfl)) (by simp [f0, f1]) rfl (fun t' ht' => ?_)
  refine Stk.gen (fun t H n => ∃ b1, t 1 = .sh [.fn (.func g1) first1 caps1] ∧ t 2 = .own b1 0 ∧ H b1 = some (.cells (c92 a0) 92) ∧ b1 < n) ⟨n, by simp [ht', f1], by simp [ht'], upd_same _ _ _, Nat.lt_succ_self _⟩ ?_
  clear f0 f1 ht' t'
  rintro t H n ⟨b1, f1, f2, b_b1, l_b1⟩
  obtain ⟨x2, hx2, h⟩ := bnd h
  refine evY_sound (f := 6) ?_; simp [-splice, f1, f2, b_b1, ldF105, ld_92_0_92]
  refine Stk.cv (g := g1) (first := first1) (caps := caps1) (args := first1 ++ [.agg (c92 a0)] ++ caps1) (args' := first1 ++ [.agg (c92 a0)] ++ caps1) (v := .sc (.bool x2)) [] (hφ1 _ _ hx2) (by simp [-splice, f1, f2, b_b1, ldF105, ld_92_0_92]) rfl (by simp [-splice, f1, f2, b_b1, ldF105, ld_92_0_92]) (by simp [-splice, f1, f2, b_b1, ldF105, ld_92_0_92]) (viewL_mid (x := [.agg (c92 a0)]) (y := [.agg (c92 a0)]) fr1.1 fr1.2 (.cons (.free (fr92 _)) (.nil))) (.inl ⟨rfl, rfl⟩) (fun t' ht' => ?_)
  subst ht'
  refine evY_sound (f := 4) ?_; simp [-splice, f1, f2, b_b1, ldF105, ld_92_0_92]
  have hq := Option.some.inj h; subst hq
  exact (hr _ _ _ (.sc (.bool (!x2))) ([]) (by simp [-splice, f1, f2, b_b1, ldF105, ld_92_0_92]) (.inr (.inr (.free (rfl))))).1
theorem ok_ast_every_api_Con (F : Nat) (a0 : (List api_Con)) (a1 : Int) (a2 : Int) (φ3 : api_Con → Option Bool) (g3 : FuncId) (first3 caps3 : List AV) (fr3 : freeL first3 = true ∧ freeL caps3 = true) (hφ3 : ∀ y0 r, φ3 y0 = some r → RunF Tryz.prog T.T g3 (first3 ++ [.agg (c92 y0)] ++ caps3) (.sc (.bool r))) (r : Bool) (h : ast_every_api_Con F a0 a1 a2 φ3 = some r) : RunF Tryz.prog T.T 103 [.ssl (encs c92 a0) a0.length false, .sc (.int .i64 a1), .sc (.int .i64 a2), .fn (.func g3) first3 caps3] (.sc (.bool r)) := by
  rw [ast_every_api_Con] at h
  refine RunF.z Tryz.func103 rfl rfl rfl rfl rfl (fun C hr => ?_)
  refine Stk.gen (fun t H n => t 0 = .ssl (encs c92 a0) a0.length false ∧ t 1 = .sc (.int .i64 a1) ∧ t 2 = .sc (.int .i64 a2) ∧ t 3 = .fn (.func g3) first3 caps3) ⟨by simp, by simp, by simp, by simp⟩ ?_
  rintro t H n ⟨f0, f1, f2, f3⟩
  refine evY_sound (f := 2) ?_; simp [-splice, f0, f1, f2, f3]
  refine Stk.gen (fun t H n => t 0 = .ssl (encs c92 a0) a0.length false ∧ t 1 = .sc (.int .i64 a1) ∧ t 2 = .sc (.int .i64 a2) ∧ t 3 = .fn (.func g3) first3 caps3) (by and_intros <;> first | assumption | simp [-splice, f0, f1, f2, f3]) ?_
  clear f0 f1 f2 f3
  rintro t H n ⟨f0, f1, f2, f3⟩
  refine Stk.om (mop_box T.t105 (cs := [.fn (.func g3) first3 caps3]) (by show partOk (t 3) = true; rw [f3]; rfl) (by show cellsOf (t 3) = _; rw [f3]; rfl)) (by simp [f0, f1, f2, f3]) rfl (fun t' ht' => ?_)
  refine Stk.gen (fun t H n => ∃ b1, t 0 = .ssl (encs c92 a0) a0.length false ∧ t 1 = .sc (.int .i64 a1) ∧ t 2 = .sc (.int .i64 a2) ∧ t 7 = .own b1 0 ∧ H b1 = some (.cells ([.fn (.func g3) first3 caps3]) 105) ∧ b1 < n) ⟨n, by simp [ht', f0], by simp [ht', f1], by simp [ht', f2], by simp [ht'], upd_same _ _ _, Nat.lt_succ_self _⟩ ?_
  clear f0 f1 f2 f3 ht' t'
  rintro t H n ⟨b1, f0, f1, f2, f7, b_b1, l_b1⟩
  refine evY_sound (f := 9) ?_; simp [-splice, f0, f1, f2, f7, b_b1]
  refine Stk.gd 5 13 18 (fun z => .sc (.bool (z && (decide ((a0.length : Int) ≤ a2))))) (w := decide (a1 ≤ (a0.length : Int))) (by simp [-splice, f0, f1, f2, f7, b_b1]) (by simp [-splice, f0, f1, f2, f7, b_b1]) (by simp [-splice, f0, f1, f2, f7, b_b1]) ?_; simp [-splice, f0, f1, f2, f7, b_b1]
  refine evY_sound (f := 1) ?_; simp [-splice, f0, f1, f2, f7, b_b1]
  refine Stk.gen (fun t H n => t 0 = .ssl (encs c92 a0) a0.length false ∧ t 7 = .own b1 0 ∧ t 19 = .sc (.bool ((decide (a1 ≤ (a0.length : Int))) && (decide ((a0.length : Int) ≤ a2)))) ∧ H b1 = some (.cells ([.fn (.func g3) first3 caps3]) 105) ∧ b1 < n) (by and_intros <;> first | assumption | simp [-splice, f0, f1, f2, f7, b_b1]) ?_
  clear f0 f1 f2 f7 b_b1 l_b1
  rintro t H n ⟨f0, f7, f19, b_b1, l_b1⟩
  obtain ⟨K1, hK1, h⟩ := jnd h
  refine Stk.jo 5 (fun t H n => ∃ v2 : Bool, K1 v2 = some r ∧ t 24 = .sc (.bool v2)) (fun J1 hJ1 => ?_) ?_
  · rcases Bool.eq_false_or_eq_true ((decide (a1 ≤ (a0.length : Int))) && (decide ((a0.length : Int) ≤ a2))) with hb1 | hb1
    · rw [hb1] at f19
      replace h := cT hb1 h
      obtain ⟨x3, hx3, h⟩ := bnd h
      refine evY_sound (f := 2) ?_; simp [-splice, f0, f7, f19, b_b1]
      refine Stk.cv (g := 56) (args := [.ssl (encs c92 a0) a0.length false, .fn (.func 167) [] [.own b1 0]]) (args' := [.ssl (encs c92 a0) a0.length false, .fn (.func 167) [] [.sh [.fn (.func g3) first3 caps3]]]) (v := .sc (.bool x3)) [b1] (ok_slices_ContainsFunc_api_Con_api_Con F _ _ 167 [] [.sh [.fn (.func g3) first3 caps3]] (by and_intros <;> first | assumption | simp [freeL, free, fr3]) (fun y0 r h => ok_ast_every_api_Con_1 F y0 _ _ _ _ fr3 hφ3 r h) _ hx3) (by simp [-splice, f0, f7, f19, b_b1]) rfl rfl (by simp [-splice, f0, f7, f19, b_b1]) (.cons (.free (freeL_encs fr92 _)) (.cons (.fn .nil (.cons (view_blk b_b1 (by simp) (by simp [freeL, free, fr3])) (.nil))) (.nil))) (.inr rfl) (fun t' ht' => ?_)
      subst ht'
      refine evY_sound (f := 3) ?_; simp [-splice, f0, f7, f19, b_b1]
      exact Stk.ln 0 (by decide) (hJ1 _ _ _ ⟨(!x3), h, by simp [-splice, f0, f7, f19, b_b1]⟩)
    · rw [hb1] at f19
      replace h := cF hb1 h
      refine evY_sound (f := 6) ?_; simp [-splice, f0, f7, f19, b_b1]
      exact Stk.ln 0 (by decide) (hJ1 _ _ _ ⟨false, h, by simp [-splice, f0, f7, f19, b_b1]⟩)
  clear h f0 f7 f19 b_b1 l_b1
  rintro t H n ⟨v2, h, f24⟩
  subst hK1
  refine evY_sound (f := 3) ?_; simp [-splice, f24]
  have hq := Option.some.inj h; subst hq
  exact (hr _ _ _ (.sc (.bool v2)) ([]) (by simp [-splice, f24]) (.inr (.inr (.free (rfl))))).1
theorem ok_ast_fitCon (F : Nat) (a0 : api_Con) (r : Bool) (h : ast_fitCon F a0 = some r) : RunF Tryz.prog T.T 104 [.agg (c92 a0)] (.sc (.bool r)) := by
  rw [ast_fitCon] at h
  refine RunF.z Tryz.func104 rfl rfl rfl rfl rfl (fun C hr => ?_)
  refine Stk.gen (fun t H n => t 0 = .agg (c92 a0)) (by simp) ?_
  rintro t H n f0
  refine evY_sound (f := 2) ?_; simp [-splice, f0]
  refine Stk.gen (fun t H n => t 0 = .agg (c92 a0)) (by simp [-splice, f0]) ?_
  clear f0
  rintro t H n f0
  refine Stk.om (mop_box T.t92 (cs := c92 a0) (by show partOk (t 0) = true; rw [f0]; rfl) (by show cellsOf (t 0) = _; rw [f0]; rfl)) (by simp [f0]) rfl (fun t' ht' => ?_)
  refine Stk.gen (fun t H n => ∃ b1, t 1 = .own b1 0 ∧ H b1 = some (.cells (c92 a0) 92) ∧ b1 < n) ⟨n, by simp [ht'], upd_same _ _ _, Nat.lt_succ_self _⟩ ?_
  clear f0 ht' t'
  rintro t H n ⟨b1, f1, b_b1, l_b1⟩
  obtain ⟨x2, hx2, h⟩ := bnd h
  refine evY_sound (f := 6) ?_; simp [-splice, f1, b_b1, ld_92_0_9]
  refine Stk.cv (g := 126) (args := [.sc (.string a0.Name)]) (args' := [.sc (.string a0.Name)]) (v := .sc (.bool x2)) [] (ok_ast_great F _ _ hx2) (by simp [-splice, f1, b_b1, ld_92_0_9]) rfl rfl (by simp [-splice, f1, b_b1, ld_92_0_9]) (.cons (.free (rfl)) (.nil)) (.inl ⟨rfl, rfl⟩) (fun t' ht' => ?_)
  subst ht'
  refine evY_sound (f := 1) ?_; simp [-splice, f1, b_b1, ld_92_0_9]
  refine Stk.gen (fun t H n => t 1 = .own b1 0 ∧ t 6 = .sc (.bool x2) ∧ H b1 = some (.cells (c92 a0) 92) ∧ b1 < n) (by and_intros <;> first | assumption | simp [-splice, f1, b_b1, ld_92_0_9]) ?_
  clear f1 b_b1 l_b1
  rintro t H n ⟨f1, f6, b_b1, l_b1⟩
  obtain ⟨K1, hK1, h⟩ := jnd h
  refine Stk.jo 4 (fun t H n => ∃ v3 : Bool, K1 v3 = some r ∧ t 10 = .sc (.bool v3)) (fun J1 hJ1 => ?_) ?_
  · rcases Bool.eq_false_or_eq_true x2 with hb1 | hb1
    · rw [hb1] at f6
      replace h := cT hb1 h
      obtain ⟨x4, hx4, h⟩ := bnd h
      refine evY_sound (f := 2) ?_; simp [-splice, f1, f6, b_b1, ld_92_1_24]
      refine Stk.cv (g := 129) (args := [.ssl (encs c26 a0.Fields) a0.Fields.length false, .sc (.int .i64 0), .sc (.int .i64 6), .fn (.func 18) [] []]) (args' := [.ssl (encs c26 a0.Fields) a0.Fields.length false, .sc (.int .i64 0), .sc (.int .i64 6), .fn (.func 18) [] []]) (v := .sc (.bool x4)) [] (ok_ast_every_api_Type F _ _ _ _ 18 [] [] (by and_intros <;> first | assumption | simp [freeL, free]) (fun y0 r h => ok_ast_FitType F y0 r h) _ hx4) (by simp [-splice, f1, f6, b_b1, ld_92_1_24]) rfl rfl (by simp [-splice, f1, f6, b_b1, ld_92_1_24]) (.cons (.free (freeL_encs fr26 _)) (.cons (.free (rfl)) (.cons (.free (rfl)) (.cons (.fn .nil (.nil)) (.nil))))) (.inl ⟨rfl, rfl⟩) (fun t' ht' => ?_)
      subst ht'
      refine evY_sound (f := 2) ?_; simp [-splice, f1, f6, b_b1, ld_92_1_24]
      exact Stk.ln 0 (by decide) (hJ1 _ _ _ ⟨x4, h, by simp [-splice, f1, f6, b_b1, ld_92_1_24]⟩)
    · rw [hb1] at f6
      replace h := cF hb1 h
      refine evY_sound (f := 5) ?_; simp [-splice, f1, f6, b_b1]
      exact Stk.ln 0 (by decide) (hJ1 _ _ _ ⟨false, h, by simp [-splice, f1, f6, b_b1]⟩)
  clear h f1 f6 b_b1 l_b1
  rintro t H n ⟨v3, h, f10⟩
  subst hK1
  refine evY_sound (f := 3) ?_; simp [-splice, f10]
  have hq := Option.some.inj h; subst hq
  exact (hr _ _ _ (.sc (.bool v3)) ([]) (by simp [-splice, f10]) (.inr (.inr (.free (rfl))))).1
theorem ok_ast_fitData (F : Nat) (a0 : api_Data) (r : Bool) (h : ast_fitData F a0 = some r) : RunF Tryz.prog T.T 38 [.agg (c72 a0)] (.sc (.bool r)) := by
  rw [ast_fitData] at h
  refine RunF.z Tryz.func38 rfl rfl rfl rfl rfl (fun C hr => ?_)
  refine Stk.gen (fun t H n => t 0 = .agg (c72 a0)) (by simp) ?_
  rintro t H n f0
  refine evY_sound (f := 2) ?_; simp [-splice, f0]
  refine Stk.gen (fun t H n => t 0 = .agg (c72 a0)) (by simp [-splice, f0]) ?_
  clear f0
  rintro t H n f0
  refine Stk.om (mop_box T.t72 (cs := c72 a0) (by show partOk (t 0) = true; rw [f0]; rfl) (by show cellsOf (t 0) = _; rw [f0]; rfl)) (by simp [f0]) rfl (fun t' ht' => ?_)
  refine Stk.gen (fun t H n => ∃ b1, t 1 = .own b1 0 ∧ H b1 = some (.cells (c72 a0) 72) ∧ b1 < n) ⟨n, by simp [ht'], upd_same _ _ _, Nat.lt_succ_self _⟩ ?_
  clear f0 ht' t'
  rintro t H n ⟨b1, f1, b_b1, l_b1⟩
  obtain ⟨x2, hx2, h⟩ := bnd h
  refine evY_sound (f := 6) ?_; simp [-splice, f1, b_b1, ld_72_2_9]
  refine Stk.cv (g := 102) (args := [.sc (.string a0.Name)]) (args' := [.sc (.string a0.Name)]) (v := .sc (.bool x2)) [] (ok_ast_declared F _ _ hx2) (by simp [-splice, f1, b_b1, ld_72_2_9]) rfl rfl (by simp [-splice, f1, b_b1, ld_72_2_9]) (.cons (.free (rfl)) (.nil)) (.inl ⟨rfl, rfl⟩) (fun t' ht' => ?_)
  subst ht'
  refine evY_sound (f := 1) ?_; simp [-splice, f1, b_b1, ld_72_2_9]
  refine Stk.gen (fun t H n => t 1 = .own b1 0 ∧ t 6 = .sc (.bool x2) ∧ H b1 = some (.cells (c72 a0) 72) ∧ b1 < n) (by and_intros <;> first | assumption | simp [-splice, f1, b_b1, ld_72_2_9]) ?_
  clear f1 b_b1 l_b1
  rintro t H n ⟨f1, f6, b_b1, l_b1⟩
  obtain ⟨K1, hK1, h⟩ := jnd h
  refine Stk.jo 4 (fun t H n => ∃ v3 : Bool, K1 v3 = some r ∧ t 10 = .sc (.bool v3)) (fun J1 hJ1 => ?_) ?_
  · rcases Bool.eq_false_or_eq_true x2 with hb1 | hb1
    · rw [hb1] at f6
      replace h := cT hb1 h
      obtain ⟨x4, hx4, h⟩ := bnd h
      refine evY_sound (f := 2) ?_; simp [-splice, f1, f6, b_b1, ld_72_3_70]
      refine Stk.cv (g := 103) (args := [.ssl (encs c92 a0.Cons) a0.Cons.length false, .sc (.int .i64 1), .sc (.int .i64 16), .fn (.func 104) [] []]) (args' := [.ssl (encs c92 a0.Cons) a0.Cons.length false, .sc (.int .i64 1), .sc (.int .i64 16), .fn (.func 104) [] []]) (v := .sc (.bool x4)) [] (ok_ast_every_api_Con F _ _ _ _ 104 [] [] (by and_intros <;> first | assumption | simp [freeL, free]) (fun y0 r h => ok_ast_fitCon F y0 r h) _ hx4) (by simp [-splice, f1, f6, b_b1, ld_72_3_70]) rfl rfl (by simp [-splice, f1, f6, b_b1, ld_72_3_70]) (.cons (.free (freeL_encs fr92 _)) (.cons (.free (rfl)) (.cons (.free (rfl)) (.cons (.fn .nil (.nil)) (.nil))))) (.inl ⟨rfl, rfl⟩) (fun t' ht' => ?_)
      subst ht'
      refine evY_sound (f := 2) ?_; simp [-splice, f1, f6, b_b1, ld_72_3_70]
      exact Stk.ln 0 (by decide) (hJ1 _ _ _ ⟨x4, h, by simp [-splice, f1, f6, b_b1, ld_72_3_70]⟩)
    · rw [hb1] at f6
      replace h := cF hb1 h
      refine evY_sound (f := 5) ?_; simp [-splice, f1, f6, b_b1]
      exact Stk.ln 0 (by decide) (hJ1 _ _ _ ⟨false, h, by simp [-splice, f1, f6, b_b1]⟩)
  clear h f1 f6 b_b1 l_b1
  rintro t H n ⟨v3, h, f10⟩
  subst hK1
  refine evY_sound (f := 3) ?_; simp [-splice, f10]
  have hq := Option.some.inj h; subst hq
  exact (hr _ _ _ (.sc (.bool v3)) ([]) (by simp [-splice, f10]) (.inr (.inr (.free (rfl))))).1
theorem ok_slices_IndexFunc_api_Fun_api_Fun (F : Nat) (a0 : (List api_Fun)) (φ1 : api_Fun → Option Bool) (g1 : FuncId) (first1 caps1 : List AV) (fr1 : freeL first1 = true ∧ freeL caps1 = true) (hφ1 : ∀ y0 r, φ1 y0 = some r → RunF Tryz.prog T.T g1 (first1 ++ [.agg (c77 y0)] ++ caps1) (.sc (.bool r))) (r : Int) (h : slices_IndexFunc_api_Fun_api_Fun F a0 φ1 = some r) : RunF Tryz.prog T.T 168 [.ssl (encs c77 a0) a0.length false, .fn (.func g1) first1 caps1] (.sc (.int .i64 r)) := by
  rw [slices_IndexFunc_api_Fun_api_Fun] at h
  refine RunF.z Tryz.func168 rfl rfl rfl rfl rfl (fun C hr => ?_)
  refine Stk.gen (fun t H n => t 0 = .ssl (encs c77 a0) a0.length false ∧ t 1 = .fn (.func g1) first1 caps1) ⟨by simp, by simp⟩ ?_
  rintro t H n ⟨f0, f1⟩
  refine evY_sound (f := 12) ?_; simp [-splice, f0, f1]
  refine Stk.gen (fun t H n => t 0 = .ssl (encs c77 a0) a0.length false ∧ t 1 = .fn (.func g1) first1 caps1 ∧ t 7 = .sc (.int .i64 (a0.length : Int)) ∧ t 8 = .sc (.int .i64 0)) (by and_intros <;> first | assumption | simp [-splice, f0, f1]) ?_
  clear f0 f1
  rintro t H n ⟨f0, f1, f7, f8⟩
  refine Stk.lo (fun μ t H n => ∃ v1 : Int, slices_IndexFunc_api_Fun_api_Fun_L0 F a0 φ1 μ v1 = some r ∧ t 0 = .ssl (encs c77 a0) a0.length false ∧ t 1 = .fn (.func g1) first1 caps1 ∧ t 7 = .sc (.int .i64 (a0.length : Int)) ∧ t 8 = .sc (.int .i64 v1)) F ⟨0, h, f0, f1, f7, f8⟩ ?_
  clear h f0 f1 f7 f8
  rintro J1 hJ1 μ t H n ⟨v1, h, f0, f1, f7, f8⟩
  cases μ with
  | zero => exact absurd h (by simp [slices_IndexFunc_api_Fun_api_Fun_L0])
  | succ μ =>
  rw [slices_IndexFunc_api_Fun_api_Fun_L0] at h
  refine evY_sound (f := 5) ?_; simp [-splice, f0, f1, f7, f8]
  refine Stk.cond (decide (v1 < (a0.length : Int))) (by simp [-splice, f0, f1, f7, f8]) (fun hb3 => ?_) (fun hb3 => ?_)
  ·have h := cT hb3 h
   obtain ⟨x4, hx4, h⟩ := bnd h
   obtain ⟨i0x4, i1x4, i2x4, _⟩ := idx_ok hx4
   have ex4_0_77 : partOf T.T 77 (encs c77 a0) (v1.toNat * 15) = some (.agg (c77 x4)) := by
       have e0 := part_elem0 (e := c77) (z := 15) (T := T.T) (ty := 77) T.t77 (by decide) (by decide) hx4 0 (by decide)
       (try simp only [Nat.mul_one, Nat.add_zero] at e0)
       exact e0.trans (ld_77_0_77 _)
   obtain ⟨x5, hx5, h⟩ := bnd h
   refine evY_sound (f := 15) ?_; simp [-splice, f0, f1, f7, f8, i0x4, i1x4, pd77, ex4_0_77]
   refine Stk.cv (g := g1) (first := first1) (caps := caps1) (args := first1 ++ [.agg (c77 x4)] ++ caps1) (args' := first1 ++ [.agg (c77 x4)] ++ caps1) (v := .sc (.bool x5)) [] (hφ1 _ _ hx5) (by simp [-splice, f0, f1, f7, f8, i0x4, i1x4, pd77, ex4_0_77]) rfl (by simp [-splice, f0, f1, f7, f8, i0x4, i1x4, pd77, ex4_0_77]) (by simp [-splice, f0, f1, f7, f8, i0x4, i1x4, pd77, ex4_0_77]) (viewL_mid (x := [.agg (c77 x4)]) (y := [.agg (c77 x4)]) fr1.1 fr1.2 (.cons (.free (fr77 _)) (.nil))) (.inl ⟨rfl, rfl⟩) (fun t' ht' => ?_)
   subst ht'
   refine evY_sound (f := 1) ?_; simp [-splice, f0, f1, f7, f8, i0x4, i1x4, pd77, ex4_0_77]
   refine Stk.cond x5 (by simp [-splice, f0, f1, f7, f8, i0x4, i1x4, pd77, ex4_0_77]) (fun hb6 => ?_) (fun hb6 => ?_)
   ·have h := cT hb6 h
    refine evY_sound (f := 6) ?_; simp [-splice, f0, f1, f7, f8, i0x4, i1x4, pd77, ex4_0_77]
    have hq := Option.some.inj h; subst hq
    exact (hr _ _ _ (.sc (.int .i64 v1)) ([]) (by simp [-splice, f0, f1, f7, f8, i0x4, i1x4, pd77, ex4_0_77]) (.inr (.inr (.free (rfl))))).1
   ·have h := cF hb6 h
    refine evY_sound (f := 6) ?_; simp [-splice, f0, f1, f7, f8, i0x4, i1x4, pd77, ex4_0_77]
    exact Stk.ln μ (Nat.lt_succ_self _) (hJ1 _ _ _ _ ⟨(IntKind.i64.wrap (v1 + 1)), h, by and_intros <;> first | assumption | simp [-splice, f0, f1, f7, f8, i0x4, i1x4, pd77, ex4_0_77]⟩)
  ·have h := cF hb3 h
   refine Stk.ex rfl ?_
   refine evY_sound (f := 5) ?_; simp [-splice, f0, f1, f7, f8]
   have hq := Option.some.inj h; subst hq
   exact (hr _ _ _ (.sc (.int .i64 (-1))) ([]) (by simp [-splice, f0, f1, f7, f8]) (.inr (.inr (.free (rfl))))).1
theorem ok_slices_ContainsFunc_api_Fun_api_Fun (F : Nat) (a0 : (List api_Fun)) (φ1 : api_Fun → Option Bool) (g1 : FuncId) (first1 caps1 : List AV) (fr1 : freeL first1 = true ∧ freeL caps1 = true) (hφ1 : ∀ y0 r, φ1 y0 = some r → RunF Tryz.prog T.T g1 (first1 ++ [.agg (c77 y0)] ++ caps1) (.sc (.bool r))) (r : Bool) (h : slices_ContainsFunc_api_Fun_api_Fun F a0 φ1 = some r) : RunF Tryz.prog T.T 105 [.ssl (encs c77 a0) a0.length false, .fn (.func g1) first1 caps1] (.sc (.bool r)) := by
  rw [slices_ContainsFunc_api_Fun_api_Fun] at h
  refine RunF.z Tryz.func105 rfl rfl rfl rfl rfl (fun C hr => ?_)
  refine Stk.gen (fun t H n => t 0 = .ssl (encs c77 a0) a0.length false ∧ t 1 = .fn (.func g1) first1 caps1) ⟨by simp, by simp⟩ ?_
  rintro t H n ⟨f0, f1⟩
  obtain ⟨x1, hx1, h⟩ := bnd h
  refine evY_sound (f := 8) ?_; simp [-splice, f0, f1]
  refine Stk.cv (g := 168) (args := [.ssl (encs c77 a0) a0.length false, .fn (.func g1) first1 caps1]) (args' := [.ssl (encs c77 a0) a0.length false, .fn (.func g1) first1 caps1]) (v := .sc (.int .i64 x1)) [] (ok_slices_IndexFunc_api_Fun_api_Fun F _ _ _ _ _ fr1 hφ1 _ hx1) (by simp [-splice, f0, f1]) rfl rfl (by simp [-splice, f0, f1]) (.cons (.free (freeL_encs fr77 _)) (.cons (.free (by simp [free, fr1])) (.nil))) (.inl ⟨rfl, rfl⟩) (fun t' ht' => ?_)
  subst ht'
  refine evY_sound (f := 4) ?_; simp [-splice, f0, f1]
  have hq := Option.some.inj h; subst hq
  exact (hr _ _ _ (.sc (.bool (decide (0 ≤ x1)))) ([]) (by simp [-splice, f0, f1]) (.inr (.inr (.free (rfl))))).1
theorem ok_ast_every_api_Fun_1 (F : Nat) (a0 : api_Fun) (φ1 : api_Fun → Option Bool) (g1 : FuncId) (first1 caps1 : List AV) (fr1 : freeL first1 = true ∧ freeL caps1 = true) (hφ1 : ∀ y0 r, φ1 y0 = some r → RunF Tryz.prog T.T g1 (first1 ++ [.agg (c77 y0)] ++ caps1) (.sc (.bool r))) (r : Bool) (h : ast_every_api_Fun_1 F a0 φ1 = some r) : RunF Tryz.prog T.T 106 [.agg (c77 a0), .sh [.fn (.func g1) first1 caps1]] (.sc (.bool r)) := by
  rw [ast_every_api_Fun_1] at h
  refine RunF.z Tryz.func106 rfl rfl rfl rfl rfl (fun C hr => ?_)
  refine Stk.gen (fun t H n => t 0 = .agg (c77 a0) ∧ t 1 = .sh [.fn (.func g1) first1 caps1]) ⟨by simp, by simp⟩ ?_
  rintro t H n ⟨f0, f1⟩
  refine evY_sound (f := 2) ?_; simp [-splice, f0, f1]
  refine Stk.gen (fun t H n => t 0 = .agg (c77 a0) ∧ t 1 = .sh [.fn (.func g1) first1 caps1]) (by and_intros <;> first | assumption | simp [-splice, f0, f1]) ?_
  clear f0 f1
  rintro t H n ⟨f0, f1⟩
  refine Stk.om (mop_box T.t77 (cs := c77 a0) (by show partOk (t 0) = true; rw [f0]; rfl) (by show cellsOf (t 0) = _; rw [f0]; rfl)) (by simp [f0, f1]) rfl (fun t' ht' => ?_)
  refine Stk.gen (fun t H n => ∃ b1, t 1 = .sh [.fn (.func g1) first1 caps1] ∧ t 2 = .own b1 0 ∧ H b1 = some (.cells (c77 a0) 77) ∧ b1 < n) ⟨n, by simp [ht', f1], by simp [ht'], upd_same _ _ _, Nat.lt_succ_self _⟩ ?_
  clear f0 f1 ht' t'
  rintro t H n ⟨b1, f1, f2, b_b1, l_b1⟩
  obtain ⟨x2, hx2, h⟩ := bnd h
  refine evY_sound (f := 6) ?_; simp [-splice, f1, f2, b_b1, ldF78, ld_77_0_77]
  refine Stk.cv (g := g1) (first := first1) (caps := caps1) (args := first1 ++ [.agg (c77 a0)] ++ caps1) (args' := first1 ++ [.agg (c77 a0)] ++ caps1) (v := .sc (.bool x2)) [] (hφ1 _ _ hx2) (by simp [-splice, f1, f2, b_b1, ldF78, ld_77_0_77]) rfl (by simp [-splice, f1, f2, b_b1, ldF78, ld_77_0_77]) (by simp [-splice, f1, f2, b_b1, ldF78, ld_77_0_77]) (viewL_mid (x := [.agg (c77 a0)]) (y := [.agg (c77 a0)]) fr1.1 fr1.2 (.cons (.free (fr77 _)) (.nil))) (.inl ⟨rfl, rfl⟩) (fun t' ht' => ?_)
  subst ht'
  refine evY_sound (f := 4) ?_; simp [-splice, f1, f2, b_b1, ldF78, ld_77_0_77]
  have hq := Option.some.inj h; subst hq
  exact (hr _ _ _ (.sc (.bool (!x2))) ([]) (by simp [-splice, f1, f2, b_b1, ldF78, ld_77_0_77]) (.inr (.inr (.free (rfl))))).1
theorem ok_ast_every_api_Fun (F : Nat) (a0 : (List api_Fun)) (a1 : Int) (a2 : Int) (φ3 : api_Fun → Option Bool) (g3 : FuncId) (first3 caps3 : List AV) (fr3 : freeL first3 = true ∧ freeL caps3 = true) (hφ3 : ∀ y0 r, φ3 y0 = some r → RunF Tryz.prog T.T g3 (first3 ++ [.agg (c77 y0)] ++ caps3) (.sc (.bool r))) (r : Bool) (h : ast_every_api_Fun F a0 a1 a2 φ3 = some r) : RunF Tryz.prog T.T 39 [.ssl (encs c77 a0) a0.length false, .sc (.int .i64 a1), .sc (.int .i64 a2), .fn (.func g3) first3 caps3] (.sc (.bool r)) := by
  rw [ast_every_api_Fun] at h
  refine RunF.z Tryz.func39 rfl rfl rfl rfl rfl (fun C hr => ?_)
  refine Stk.gen (fun t H n => t 0 = .ssl (encs c77 a0) a0.length false ∧ t 1 = .sc (.int .i64 a1) ∧ t 2 = .sc (.int .i64 a2) ∧ t 3 = .fn (.func g3) first3 caps3) ⟨by simp, by simp, by simp, by simp⟩ ?_
  rintro t H n ⟨f0, f1, f2, f3⟩
  refine evY_sound (f := 2) ?_; simp [-splice, f0, f1, f2, f3]
  refine Stk.gen (fun t H n => t 0 = .ssl (encs c77 a0) a0.length false ∧ t 1 = .sc (.int .i64 a1) ∧ t 2 = .sc (.int .i64 a2) ∧ t 3 = .fn (.func g3) first3 caps3) (by and_intros <;> first | assumption | simp [-splice, f0, f1, f2, f3]) ?_
  clear f0 f1 f2 f3
  rintro t H n ⟨f0, f1, f2, f3⟩
  refine Stk.om (mop_box T.t78 (cs := [.fn (.func g3) first3 caps3]) (by show partOk (t 3) = true; rw [f3]; rfl) (by show cellsOf (t 3) = _; rw [f3]; rfl)) (by simp [f0, f1, f2, f3]) rfl (fun t' ht' => ?_)
  refine Stk.gen (fun t H n => ∃ b1, t 0 = .ssl (encs c77 a0) a0.length false ∧ t 1 = .sc (.int .i64 a1) ∧ t 2 = .sc (.int .i64 a2) ∧ t 7 = .own b1 0 ∧ H b1 = some (.cells ([.fn (.func g3) first3 caps3]) 78) ∧ b1 < n) ⟨n, by simp [ht', f0], by simp [ht', f1], by simp [ht', f2], by simp [ht'], upd_same _ _ _, Nat.lt_succ_self _⟩ ?_
  clear f0 f1 f2 f3 ht' t'
  rintro t H n ⟨b1, f0, f1, f2, f7, b_b1, l_b1⟩
  refine evY_sound (f := 9) ?_; simp [-splice, f0, f1, f2, f7, b_b1]
  refine Stk.gd 5 13 18 (fun z => .sc (.bool (z && (decide ((a0.length : Int) ≤ a2))))) (w := decide (a1 ≤ (a0.length : Int))) (by simp [-splice, f0, f1, f2, f7, b_b1]) (by simp [-splice, f0, f1, f2, f7, b_b1]) (by simp [-splice, f0, f1, f2, f7, b_b1]) ?_; simp [-splice, f0, f1, f2, f7, b_b1]
  refine evY_sound (f := 1) ?_; simp [-splice, f0, f1, f2, f7, b_b1]
  refine Stk.gen (fun t H n => t 0 = .ssl (encs c77 a0) a0.length false ∧ t 7 = .own b1 0 ∧ t 19 = .sc (.bool ((decide (a1 ≤ (a0.length : Int))) && (decide ((a0.length : Int) ≤ a2)))) ∧ H b1 = some (.cells ([.fn (.func g3) first3 caps3]) 78) ∧ b1 < n) (by and_intros <;> first | assumption | simp [-splice, f0, f1, f2, f7, b_b1]) ?_
  clear f0 f1 f2 f7 b_b1 l_b1
  rintro t H n ⟨f0, f7, f19, b_b1, l_b1⟩
  obtain ⟨K1, hK1, h⟩ := jnd h
  refine Stk.jo 5 (fun t H n => ∃ v2 : Bool, K1 v2 = some r ∧ t 24 = .sc (.bool v2)) (fun J1 hJ1 => ?_) ?_
  · rcases Bool.eq_false_or_eq_true ((decide (a1 ≤ (a0.length : Int))) && (decide ((a0.length : Int) ≤ a2))) with hb1 | hb1
    · rw [hb1] at f19
      replace h := cT hb1 h
      obtain ⟨x3, hx3, h⟩ := bnd h
      refine evY_sound (f := 2) ?_; simp [-splice, f0, f7, f19, b_b1]
      refine Stk.cv (g := 105) (args := [.ssl (encs c77 a0) a0.length false, .fn (.func 106) [] [.own b1 0]]) (args' := [.ssl (encs c77 a0) a0.length false, .fn (.func 106) [] [.sh [.fn (.func g3) first3 caps3]]]) (v := .sc (.bool x3)) [b1] (ok_slices_ContainsFunc_api_Fun_api_Fun F _ _ 106 [] [.sh [.fn (.func g3) first3 caps3]] (by and_intros <;> first | assumption | simp [freeL, free, fr3]) (fun y0 r h => ok_ast_every_api_Fun_1 F y0 _ _ _ _ fr3 hφ3 r h) _ hx3) (by simp [-splice, f0, f7, f19, b_b1]) rfl rfl (by simp [-splice, f0, f7, f19, b_b1]) (.cons (.free (freeL_encs fr77 _)) (.cons (.fn .nil (.cons (view_blk b_b1 (by simp) (by simp [freeL, free, fr3])) (.nil))) (.nil))) (.inr rfl) (fun t' ht' => ?_)
      subst ht'
      refine evY_sound (f := 3) ?_; simp [-splice, f0, f7, f19, b_b1]
      exact Stk.ln 0 (by decide) (hJ1 _ _ _ ⟨(!x3), h, by simp [-splice, f0, f7, f19, b_b1]⟩)
    · rw [hb1] at f19
      replace h := cF hb1 h
      refine evY_sound (f := 6) ?_; simp [-splice, f0, f7, f19, b_b1]
      exact Stk.ln 0 (by decide) (hJ1 _ _ _ ⟨false, h, by simp [-splice, f0, f7, f19, b_b1]⟩)
  clear h f0 f7 f19 b_b1 l_b1
  rintro t H n ⟨v2, h, f24⟩
  subst hK1
  refine evY_sound (f := 3) ?_; simp [-splice, f24]
  have hq := Option.some.inj h; subst hq
  exact (hr _ _ _ (.sc (.bool v2)) ([]) (by simp [-splice, f24]) (.inr (.inr (.free (rfl))))).1
theorem ok_slices_IndexFunc_api_Param_api_Param (F : Nat) (a0 : (List api_Param)) (φ1 : api_Param → Option Bool) (g1 : FuncId) (first1 caps1 : List AV) (fr1 : freeL first1 = true ∧ freeL caps1 = true) (hφ1 : ∀ y0 r, φ1 y0 = some r → RunF Tryz.prog T.T g1 (first1 ++ [.agg (c81 y0)] ++ caps1) (.sc (.bool r))) (r : Int) (h : slices_IndexFunc_api_Param_api_Param F a0 φ1 = some r) : RunF Tryz.prog T.T 195 [.ssl (encs c81 a0) a0.length false, .fn (.func g1) first1 caps1] (.sc (.int .i64 r)) := by
  rw [slices_IndexFunc_api_Param_api_Param] at h
  refine RunF.z Tryz.func195 rfl rfl rfl rfl rfl (fun C hr => ?_)
  refine Stk.gen (fun t H n => t 0 = .ssl (encs c81 a0) a0.length false ∧ t 1 = .fn (.func g1) first1 caps1) ⟨by simp, by simp⟩ ?_
  rintro t H n ⟨f0, f1⟩
  refine evY_sound (f := 12) ?_; simp [-splice, f0, f1]
  refine Stk.gen (fun t H n => t 0 = .ssl (encs c81 a0) a0.length false ∧ t 1 = .fn (.func g1) first1 caps1 ∧ t 7 = .sc (.int .i64 (a0.length : Int)) ∧ t 8 = .sc (.int .i64 0)) (by and_intros <;> first | assumption | simp [-splice, f0, f1]) ?_
  clear f0 f1
  rintro t H n ⟨f0, f1, f7, f8⟩
  refine Stk.lo (fun μ t H n => ∃ v1 : Int, slices_IndexFunc_api_Param_api_Param_L0 F a0 φ1 μ v1 = some r ∧ t 0 = .ssl (encs c81 a0) a0.length false ∧ t 1 = .fn (.func g1) first1 caps1 ∧ t 7 = .sc (.int .i64 (a0.length : Int)) ∧ t 8 = .sc (.int .i64 v1)) F ⟨0, h, f0, f1, f7, f8⟩ ?_
  clear h f0 f1 f7 f8
  rintro J1 hJ1 μ t H n ⟨v1, h, f0, f1, f7, f8⟩
  cases μ with
  | zero => exact absurd h (by simp [slices_IndexFunc_api_Param_api_Param_L0])
  | succ μ =>
  rw [slices_IndexFunc_api_Param_api_Param_L0] at h
  refine evY_sound (f := 5) ?_; simp [-splice, f0, f1, f7, f8]
  refine Stk.cond (decide (v1 < (a0.length : Int))) (by simp [-splice, f0, f1, f7, f8]) (fun hb3 => ?_) (fun hb3 => ?_)
  ·have h := cT hb3 h
   obtain ⟨x4, hx4, h⟩ := bnd h
   obtain ⟨i0x4, i1x4, i2x4, _⟩ := idx_ok hx4
   have ex4_0_81 : partOf T.T 81 (encs c81 a0) (v1.toNat * 4) = some (.agg (c81 x4)) := by
       have e0 := part_elem0 (e := c81) (z := 4) (T := T.T) (ty := 81) T.t81 (by decide) (by decide) hx4 0 (by decide)
       (try simp only [Nat.mul_one, Nat.add_zero] at e0)
       exact e0.trans (ld_81_0_81 _)
   obtain ⟨x5, hx5, h⟩ := bnd h
   refine evY_sound (f := 15) ?_; simp [-splice, f0, f1, f7, f8, i0x4, i1x4, pd81, ex4_0_81]
   refine Stk.cv (g := g1) (first := first1) (caps := caps1) (args := first1 ++ [.agg (c81 x4)] ++ caps1) (args' := first1 ++ [.agg (c81 x4)] ++ caps1) (v := .sc (.bool x5)) [] (hφ1 _ _ hx5) (by simp [-splice, f0, f1, f7, f8, i0x4, i1x4, pd81, ex4_0_81]) rfl (by simp [-splice, f0, f1, f7, f8, i0x4, i1x4, pd81, ex4_0_81]) (by simp [-splice, f0, f1, f7, f8, i0x4, i1x4, pd81, ex4_0_81]) (viewL_mid (x := [.agg (c81 x4)]) (y := [.agg (c81 x4)]) fr1.1 fr1.2 (.cons (.free (fr81 _)) (.nil))) (.inl ⟨rfl, rfl⟩) (fun t' ht' => ?_)
   subst ht'
   refine evY_sound (f := 1) ?_; simp [-splice, f0, f1, f7, f8, i0x4, i1x4, pd81, ex4_0_81]
   refine Stk.cond x5 (by simp [-splice, f0, f1, f7, f8, i0x4, i1x4, pd81, ex4_0_81]) (fun hb6 => ?_) (fun hb6 => ?_)
   ·have h := cT hb6 h
    refine evY_sound (f := 6) ?_; simp [-splice, f0, f1, f7, f8, i0x4, i1x4, pd81, ex4_0_81]
    have hq := Option.some.inj h; subst hq
    exact (hr _ _ _ (.sc (.int .i64 v1)) ([]) (by simp [-splice, f0, f1, f7, f8, i0x4, i1x4, pd81, ex4_0_81]) (.inr (.inr (.free (rfl))))).1
   ·have h := cF hb6 h
    refine evY_sound (f := 6) ?_; simp [-splice, f0, f1, f7, f8, i0x4, i1x4, pd81, ex4_0_81]
    exact Stk.ln μ (Nat.lt_succ_self _) (hJ1 _ _ _ _ ⟨(IntKind.i64.wrap (v1 + 1)), h, by and_intros <;> first | assumption | simp [-splice, f0, f1, f7, f8, i0x4, i1x4, pd81, ex4_0_81]⟩)
  ·have h := cF hb3 h
   refine Stk.ex rfl ?_
   refine evY_sound (f := 5) ?_; simp [-splice, f0, f1, f7, f8]
   have hq := Option.some.inj h; subst hq
   exact (hr _ _ _ (.sc (.int .i64 (-1))) ([]) (by simp [-splice, f0, f1, f7, f8]) (.inr (.inr (.free (rfl))))).1
theorem ok_slices_ContainsFunc_api_Param_api_Param (F : Nat) (a0 : (List api_Param)) (φ1 : api_Param → Option Bool) (g1 : FuncId) (first1 caps1 : List AV) (fr1 : freeL first1 = true ∧ freeL caps1 = true) (hφ1 : ∀ y0 r, φ1 y0 = some r → RunF Tryz.prog T.T g1 (first1 ++ [.agg (c81 y0)] ++ caps1) (.sc (.bool r))) (r : Bool) (h : slices_ContainsFunc_api_Param_api_Param F a0 φ1 = some r) : RunF Tryz.prog T.T 169 [.ssl (encs c81 a0) a0.length false, .fn (.func g1) first1 caps1] (.sc (.bool r)) := by
  rw [slices_ContainsFunc_api_Param_api_Param] at h
  refine RunF.z Tryz.func169 rfl rfl rfl rfl rfl (fun C hr => ?_)
  refine Stk.gen (fun t H n => t 0 = .ssl (encs c81 a0) a0.length false ∧ t 1 = .fn (.func g1) first1 caps1) ⟨by simp, by simp⟩ ?_
  rintro t H n ⟨f0, f1⟩
  obtain ⟨x1, hx1, h⟩ := bnd h
  refine evY_sound (f := 8) ?_; simp [-splice, f0, f1]
  refine Stk.cv (g := 195) (args := [.ssl (encs c81 a0) a0.length false, .fn (.func g1) first1 caps1]) (args' := [.ssl (encs c81 a0) a0.length false, .fn (.func g1) first1 caps1]) (v := .sc (.int .i64 x1)) [] (ok_slices_IndexFunc_api_Param_api_Param F _ _ _ _ _ fr1 hφ1 _ hx1) (by simp [-splice, f0, f1]) rfl rfl (by simp [-splice, f0, f1]) (.cons (.free (freeL_encs fr81 _)) (.cons (.free (by simp [free, fr1])) (.nil))) (.inl ⟨rfl, rfl⟩) (fun t' ht' => ?_)
  subst ht'
  refine evY_sound (f := 4) ?_; simp [-splice, f0, f1]
  have hq := Option.some.inj h; subst hq
  exact (hr _ _ _ (.sc (.bool (decide (0 ≤ x1)))) ([]) (by simp [-splice, f0, f1]) (.inr (.inr (.free (rfl))))).1
theorem ok_ast_every_api_Param_1 (F : Nat) (a0 : api_Param) (φ1 : api_Param → Option Bool) (g1 : FuncId) (first1 caps1 : List AV) (fr1 : freeL first1 = true ∧ freeL caps1 = true) (hφ1 : ∀ y0 r, φ1 y0 = some r → RunF Tryz.prog T.T g1 (first1 ++ [.agg (c81 y0)] ++ caps1) (.sc (.bool r))) (r : Bool) (h : ast_every_api_Param_1 F a0 φ1 = some r) : RunF Tryz.prog T.T 170 [.agg (c81 a0), .sh [.fn (.func g1) first1 caps1]] (.sc (.bool r)) := by
  rw [ast_every_api_Param_1] at h
  refine RunF.z Tryz.func170 rfl rfl rfl rfl rfl (fun C hr => ?_)
  refine Stk.gen (fun t H n => t 0 = .agg (c81 a0) ∧ t 1 = .sh [.fn (.func g1) first1 caps1]) ⟨by simp, by simp⟩ ?_
  rintro t H n ⟨f0, f1⟩
  refine evY_sound (f := 2) ?_; simp [-splice, f0, f1]
  refine Stk.gen (fun t H n => t 0 = .agg (c81 a0) ∧ t 1 = .sh [.fn (.func g1) first1 caps1]) (by and_intros <;> first | assumption | simp [-splice, f0, f1]) ?_
  clear f0 f1
  rintro t H n ⟨f0, f1⟩
  refine Stk.om (mop_box T.t81 (cs := c81 a0) (by show partOk (t 0) = true; rw [f0]; rfl) (by show cellsOf (t 0) = _; rw [f0]; rfl)) (by simp [f0, f1]) rfl (fun t' ht' => ?_)
  refine Stk.gen (fun t H n => ∃ b1, t 1 = .sh [.fn (.func g1) first1 caps1] ∧ t 2 = .own b1 0 ∧ H b1 = some (.cells (c81 a0) 81) ∧ b1 < n) ⟨n, by simp [ht', f1], by simp [ht'], upd_same _ _ _, Nat.lt_succ_self _⟩ ?_
  clear f0 f1 ht' t'
  rintro t H n ⟨b1, f1, f2, b_b1, l_b1⟩
  obtain ⟨x2, hx2, h⟩ := bnd h
  refine evY_sound (f := 6) ?_; simp [-splice, f1, f2, b_b1, ldF86, ld_81_0_81]
  refine Stk.cv (g := g1) (first := first1) (caps := caps1) (args := first1 ++ [.agg (c81 a0)] ++ caps1) (args' := first1 ++ [.agg (c81 a0)] ++ caps1) (v := .sc (.bool x2)) [] (hφ1 _ _ hx2) (by simp [-splice, f1, f2, b_b1, ldF86, ld_81_0_81]) rfl (by simp [-splice, f1, f2, b_b1, ldF86, ld_81_0_81]) (by simp [-splice, f1, f2, b_b1, ldF86, ld_81_0_81]) (viewL_mid (x := [.agg (c81 a0)]) (y := [.agg (c81 a0)]) fr1.1 fr1.2 (.cons (.free (fr81 _)) (.nil))) (.inl ⟨rfl, rfl⟩) (fun t' ht' => ?_)
  subst ht'
  refine evY_sound (f := 4) ?_; simp [-splice, f1, f2, b_b1, ldF86, ld_81_0_81]
  have hq := Option.some.inj h; subst hq
  exact (hr _ _ _ (.sc (.bool (!x2))) ([]) (by simp [-splice, f1, f2, b_b1, ldF86, ld_81_0_81]) (.inr (.inr (.free (rfl))))).1
theorem ok_ast_every_api_Param (F : Nat) (a0 : (List api_Param)) (a1 : Int) (a2 : Int) (φ3 : api_Param → Option Bool) (g3 : FuncId) (first3 caps3 : List AV) (fr3 : freeL first3 = true ∧ freeL caps3 = true) (hφ3 : ∀ y0 r, φ3 y0 = some r → RunF Tryz.prog T.T g3 (first3 ++ [.agg (c81 y0)] ++ caps3) (.sc (.bool r))) (r : Bool) (h : ast_every_api_Param F a0 a1 a2 φ3 = some r) : RunF Tryz.prog T.T 108 [.ssl (encs c81 a0) a0.length false, .sc (.int .i64 a1), .sc (.int .i64 a2), .fn (.func g3) first3 caps3] (.sc (.bool r)) := by
  rw [ast_every_api_Param] at h
  refine RunF.z Tryz.func108 rfl rfl rfl rfl rfl (fun C hr => ?_)
  refine Stk.gen (fun t H n => t 0 = .ssl (encs c81 a0) a0.length false ∧ t 1 = .sc (.int .i64 a1) ∧ t 2 = .sc (.int .i64 a2) ∧ t 3 = .fn (.func g3) first3 caps3) ⟨by simp, by simp, by simp, by simp⟩ ?_
  rintro t H n ⟨f0, f1, f2, f3⟩
  refine evY_sound (f := 2) ?_; simp [-splice, f0, f1, f2, f3]
  refine Stk.gen (fun t H n => t 0 = .ssl (encs c81 a0) a0.length false ∧ t 1 = .sc (.int .i64 a1) ∧ t 2 = .sc (.int .i64 a2) ∧ t 3 = .fn (.func g3) first3 caps3) (by and_intros <;> first | assumption | simp [-splice, f0, f1, f2, f3]) ?_
  clear f0 f1 f2 f3
  rintro t H n ⟨f0, f1, f2, f3⟩
  refine Stk.om (mop_box T.t86 (cs := [.fn (.func g3) first3 caps3]) (by show partOk (t 3) = true; rw [f3]; rfl) (by show cellsOf (t 3) = _; rw [f3]; rfl)) (by simp [f0, f1, f2, f3]) rfl (fun t' ht' => ?_)
  refine Stk.gen (fun t H n => ∃ b1, t 0 = .ssl (encs c81 a0) a0.length false ∧ t 1 = .sc (.int .i64 a1) ∧ t 2 = .sc (.int .i64 a2) ∧ t 7 = .own b1 0 ∧ H b1 = some (.cells ([.fn (.func g3) first3 caps3]) 86) ∧ b1 < n) ⟨n, by simp [ht', f0], by simp [ht', f1], by simp [ht', f2], by simp [ht'], upd_same _ _ _, Nat.lt_succ_self _⟩ ?_
  clear f0 f1 f2 f3 ht' t'
  rintro t H n ⟨b1, f0, f1, f2, f7, b_b1, l_b1⟩
  refine evY_sound (f := 9) ?_; simp [-splice, f0, f1, f2, f7, b_b1]
  refine Stk.gd 5 13 18 (fun z => .sc (.bool (z && (decide ((a0.length : Int) ≤ a2))))) (w := decide (a1 ≤ (a0.length : Int))) (by simp [-splice, f0, f1, f2, f7, b_b1]) (by simp [-splice, f0, f1, f2, f7, b_b1]) (by simp [-splice, f0, f1, f2, f7, b_b1]) ?_; simp [-splice, f0, f1, f2, f7, b_b1]
  refine evY_sound (f := 1) ?_; simp [-splice, f0, f1, f2, f7, b_b1]
  refine Stk.gen (fun t H n => t 0 = .ssl (encs c81 a0) a0.length false ∧ t 7 = .own b1 0 ∧ t 19 = .sc (.bool ((decide (a1 ≤ (a0.length : Int))) && (decide ((a0.length : Int) ≤ a2)))) ∧ H b1 = some (.cells ([.fn (.func g3) first3 caps3]) 86) ∧ b1 < n) (by and_intros <;> first | assumption | simp [-splice, f0, f1, f2, f7, b_b1]) ?_
  clear f0 f1 f2 f7 b_b1 l_b1
  rintro t H n ⟨f0, f7, f19, b_b1, l_b1⟩
  obtain ⟨K1, hK1, h⟩ := jnd h
  refine Stk.jo 5 (fun t H n => ∃ v2 : Bool, K1 v2 = some r ∧ t 24 = .sc (.bool v2)) (fun J1 hJ1 => ?_) ?_
  · rcases Bool.eq_false_or_eq_true ((decide (a1 ≤ (a0.length : Int))) && (decide ((a0.length : Int) ≤ a2))) with hb1 | hb1
    · rw [hb1] at f19
      replace h := cT hb1 h
      obtain ⟨x3, hx3, h⟩ := bnd h
      refine evY_sound (f := 2) ?_; simp [-splice, f0, f7, f19, b_b1]
      refine Stk.cv (g := 169) (args := [.ssl (encs c81 a0) a0.length false, .fn (.func 170) [] [.own b1 0]]) (args' := [.ssl (encs c81 a0) a0.length false, .fn (.func 170) [] [.sh [.fn (.func g3) first3 caps3]]]) (v := .sc (.bool x3)) [b1] (ok_slices_ContainsFunc_api_Param_api_Param F _ _ 170 [] [.sh [.fn (.func g3) first3 caps3]] (by and_intros <;> first | assumption | simp [freeL, free, fr3]) (fun y0 r h => ok_ast_every_api_Param_1 F y0 _ _ _ _ fr3 hφ3 r h) _ hx3) (by simp [-splice, f0, f7, f19, b_b1]) rfl rfl (by simp [-splice, f0, f7, f19, b_b1]) (.cons (.free (freeL_encs fr81 _)) (.cons (.fn .nil (.cons (view_blk b_b1 (by simp) (by simp [freeL, free, fr3])) (.nil))) (.nil))) (.inr rfl) (fun t' ht' => ?_)
      subst ht'
      refine evY_sound (f := 3) ?_; simp [-splice, f0, f7, f19, b_b1]
      exact Stk.ln 0 (by decide) (hJ1 _ _ _ ⟨(!x3), h, by simp [-splice, f0, f7, f19, b_b1]⟩)
    · rw [hb1] at f19
      replace h := cF hb1 h
      refine evY_sound (f := 6) ?_; simp [-splice, f0, f7, f19, b_b1]
      exact Stk.ln 0 (by decide) (hJ1 _ _ _ ⟨false, h, by simp [-splice, f0, f7, f19, b_b1]⟩)
  clear h f0 f7 f19 b_b1 l_b1
  rintro t H n ⟨v2, h, f24⟩
  subst hK1
  refine evY_sound (f := 3) ?_; simp [-splice, f24]
  have hq := Option.some.inj h; subst hq
  exact (hr _ _ _ (.sc (.bool v2)) ([]) (by simp [-splice, f24]) (.inr (.inr (.free (rfl))))).1
theorem ok_ast_fitParam (F : Nat) (a0 : api_Param) (r : Bool) (h : ast_fitParam F a0 = some r) : RunF Tryz.prog T.T 109 [.agg (c81 a0)] (.sc (.bool r)) := by
  rw [ast_fitParam] at h
  refine RunF.z Tryz.func109 rfl rfl rfl rfl rfl (fun C hr => ?_)
  refine Stk.gen (fun t H n => t 0 = .agg (c81 a0)) (by simp) ?_
  rintro t H n f0
  refine evY_sound (f := 2) ?_; simp [-splice, f0]
  refine Stk.gen (fun t H n => t 0 = .agg (c81 a0)) (by simp [-splice, f0]) ?_
  clear f0
  rintro t H n f0
  refine Stk.om (mop_box T.t81 (cs := c81 a0) (by show partOk (t 0) = true; rw [f0]; rfl) (by show cellsOf (t 0) = _; rw [f0]; rfl)) (by simp [f0]) rfl (fun t' ht' => ?_)
  refine Stk.gen (fun t H n => ∃ b1, t 1 = .own b1 0 ∧ H b1 = some (.cells (c81 a0) 81) ∧ b1 < n) ⟨n, by simp [ht'], upd_same _ _ _, Nat.lt_succ_self _⟩ ?_
  clear f0 ht' t'
  rintro t H n ⟨b1, f1, b_b1, l_b1⟩
  obtain ⟨x2, hx2, h⟩ := bnd h
  refine evY_sound (f := 6) ?_; simp [-splice, f1, b_b1, ld_81_0_9]
  refine Stk.cv (g := 112) (args := [.sc (.string a0.Name)]) (args' := [.sc (.string a0.Name)]) (v := .sc (.bool x2)) [] (ok_ast_small F _ _ hx2) (by simp [-splice, f1, b_b1, ld_81_0_9]) rfl rfl (by simp [-splice, f1, b_b1, ld_81_0_9]) (.cons (.free (rfl)) (.nil)) (.inl ⟨rfl, rfl⟩) (fun t' ht' => ?_)
  subst ht'
  refine evY_sound (f := 1) ?_; simp [-splice, f1, b_b1, ld_81_0_9]
  refine Stk.gen (fun t H n => t 1 = .own b1 0 ∧ t 6 = .sc (.bool x2) ∧ H b1 = some (.cells (c81 a0) 81) ∧ b1 < n) (by and_intros <;> first | assumption | simp [-splice, f1, b_b1, ld_81_0_9]) ?_
  clear f1 b_b1 l_b1
  rintro t H n ⟨f1, f6, b_b1, l_b1⟩
  obtain ⟨K1, hK1, h⟩ := jnd h
  refine Stk.jo 4 (fun t H n => ∃ v3 : Bool, K1 v3 = some r ∧ t 10 = .sc (.bool v3)) (fun J1 hJ1 => ?_) ?_
  · rcases Bool.eq_false_or_eq_true x2 with hb1 | hb1
    · rw [hb1] at f6
      replace h := cT hb1 h
      obtain ⟨x4, hx4, h⟩ := bnd h
      refine evY_sound (f := 2) ?_; simp [-splice, f1, f6, b_b1, ld_81_1_26]
      refine Stk.cv (g := 18) (args := [.agg (c26 a0.Type_)]) (args' := [.agg (c26 a0.Type_)]) (v := .sc (.bool x4)) [] (ok_ast_FitType F _ _ hx4) (by simp [-splice, f1, f6, b_b1, ld_81_1_26]) rfl rfl (by simp [-splice, f1, f6, b_b1, ld_81_1_26]) (.cons (.free (fr26 _)) (.nil)) (.inl ⟨rfl, rfl⟩) (fun t' ht' => ?_)
      subst ht'
      refine evY_sound (f := 2) ?_; simp [-splice, f1, f6, b_b1, ld_81_1_26]
      exact Stk.ln 0 (by decide) (hJ1 _ _ _ ⟨x4, h, by simp [-splice, f1, f6, b_b1, ld_81_1_26]⟩)
    · rw [hb1] at f6
      replace h := cF hb1 h
      refine evY_sound (f := 5) ?_; simp [-splice, f1, f6, b_b1]
      exact Stk.ln 0 (by decide) (hJ1 _ _ _ ⟨false, h, by simp [-splice, f1, f6, b_b1]⟩)
  clear h f1 f6 b_b1 l_b1
  rintro t H n ⟨v3, h, f10⟩
  subst hK1
  refine evY_sound (f := 3) ?_; simp [-splice, f10]
  have hq := Option.some.inj h; subst hq
  exact (hr _ _ _ (.sc (.bool v3)) ([]) (by simp [-splice, f10]) (.inr (.inr (.free (rfl))))).1
theorem ok_ast_fitFun (F : Nat) (a0 : api_Fun) (r : Bool) (h : ast_fitFun F a0 = some r) : RunF Tryz.prog T.T 40 [.agg (c77 a0)] (.sc (.bool r)) := by
  rw [ast_fitFun] at h
  refine RunF.z Tryz.func40 rfl rfl rfl rfl rfl (fun C hr => ?_)
  refine Stk.gen (fun t H n => t 0 = .agg (c77 a0)) (by simp) ?_
  rintro t H n f0
  refine evY_sound (f := 2) ?_; simp [-splice, f0]
  refine Stk.gen (fun t H n => t 0 = .agg (c77 a0)) (by simp [-splice, f0]) ?_
  clear f0
  rintro t H n f0
  refine Stk.om (mop_box T.t77 (cs := c77 a0) (by show partOk (t 0) = true; rw [f0]; rfl) (by show cellsOf (t 0) = _; rw [f0]; rfl)) (by simp [f0]) rfl (fun t' ht' => ?_)
  refine Stk.gen (fun t H n => ∃ b1, t 1 = .own b1 0 ∧ H b1 = some (.cells (c77 a0) 77) ∧ b1 < n) ⟨n, by simp [ht'], upd_same _ _ _, Nat.lt_succ_self _⟩ ?_
  clear f0 ht' t'
  rintro t H n ⟨b1, f1, b_b1, l_b1⟩
  obtain ⟨x2, hx2, h⟩ := bnd h
  refine evY_sound (f := 6) ?_; simp [-splice, f1, b_b1, ld_77_2_9]
  refine Stk.cv (g := 107) (args := [.sc (.string a0.Name)]) (args' := [.sc (.string a0.Name)]) (v := .sc (.bool x2)) [] (ok_ast_called F _ _ hx2) (by simp [-splice, f1, b_b1, ld_77_2_9]) rfl rfl (by simp [-splice, f1, b_b1, ld_77_2_9]) (.cons (.free (rfl)) (.nil)) (.inl ⟨rfl, rfl⟩) (fun t' ht' => ?_)
  subst ht'
  refine evY_sound (f := 1) ?_; simp [-splice, f1, b_b1, ld_77_2_9]
  refine Stk.gen (fun t H n => t 1 = .own b1 0 ∧ t 6 = .sc (.bool x2) ∧ H b1 = some (.cells (c77 a0) 77) ∧ b1 < n) (by and_intros <;> first | assumption | simp [-splice, f1, b_b1, ld_77_2_9]) ?_
  clear f1 b_b1 l_b1
  rintro t H n ⟨f1, f6, b_b1, l_b1⟩
  obtain ⟨K1, hK1, h⟩ := jnd h
  refine Stk.jo 4 (fun t H n => ∃ v3 : Bool, K1 v3 = some r ∧ t 1 = .own b1 0 ∧ t 10 = .sc (.bool v3) ∧ H b1 = some (.cells (c77 a0) 77) ∧ b1 < n) (fun J1 hJ1 => ?_) ?_
  · rcases Bool.eq_false_or_eq_true x2 with hb1 | hb1
    · rw [hb1] at f6
      replace h := cT hb1 h
      obtain ⟨x4, hx4, h⟩ := bnd h
      refine evY_sound (f := 2) ?_; simp [-splice, f1, f6, b_b1, ld_77_3_75]
      refine Stk.cv (g := 108) (args := [.ssl (encs c81 a0.Params) a0.Params.length false, .sc (.int .i64 1), .sc (.int .i64 6), .fn (.func 109) [] []]) (args' := [.ssl (encs c81 a0.Params) a0.Params.length false, .sc (.int .i64 1), .sc (.int .i64 6), .fn (.func 109) [] []]) (v := .sc (.bool x4)) [] (ok_ast_every_api_Param F _ _ _ _ 109 [] [] (by and_intros <;> first | assumption | simp [freeL, free]) (fun y0 r h => ok_ast_fitParam F y0 r h) _ hx4) (by simp [-splice, f1, f6, b_b1, ld_77_3_75]) rfl rfl (by simp [-splice, f1, f6, b_b1, ld_77_3_75]) (.cons (.free (freeL_encs fr81 _)) (.cons (.free (rfl)) (.cons (.free (rfl)) (.cons (.fn .nil (.nil)) (.nil))))) (.inl ⟨rfl, rfl⟩) (fun t' ht' => ?_)
      subst ht'
      refine evY_sound (f := 2) ?_; simp [-splice, f1, f6, b_b1, ld_77_3_75]
      exact Stk.ln 0 (by decide) (hJ1 _ _ _ ⟨x4, h, by and_intros <;> first | assumption | simp [-splice, f1, f6, b_b1, ld_77_3_75]⟩)
    · rw [hb1] at f6
      replace h := cF hb1 h
      refine evY_sound (f := 5) ?_; simp [-splice, f1, f6, b_b1]
      exact Stk.ln 0 (by decide) (hJ1 _ _ _ ⟨false, h, by and_intros <;> first | assumption | simp [-splice, f1, f6, b_b1]⟩)
  clear h f1 f6 b_b1 l_b1
  rintro t H n ⟨v3, h, f1, f10, b_b1, l_b1⟩
  subst hK1
  refine evY_sound (f := 1) ?_; simp [-splice, f1, f10, b_b1]
  refine Stk.gen (fun t H n => t 1 = .own b1 0 ∧ t 11 = .sc (.bool v3) ∧ H b1 = some (.cells (c77 a0) 77) ∧ b1 < n) (by and_intros <;> first | assumption | simp [-splice, f1, f10, b_b1]) ?_
  clear f1 f10 b_b1 l_b1
  rintro t H n ⟨f1, f11, b_b1, l_b1⟩
  obtain ⟨K2, hK2, h⟩ := jnd h
  refine Stk.jo 4 (fun t H n => ∃ v5 : Bool, K2 v5 = some r ∧ t 1 = .own b1 0 ∧ t 15 = .sc (.bool v5) ∧ H b1 = some (.cells (c77 a0) 77) ∧ b1 < n) (fun J2 hJ2 => ?_) ?_
  · rcases Bool.eq_false_or_eq_true v3 with hb2 | hb2
    · rw [hb2] at f11
      replace h := cT hb2 h
      obtain ⟨x6, hx6, h⟩ := bnd h
      refine evY_sound (f := 2) ?_; simp [-splice, f1, f11, b_b1, ld_77_4_26]
      refine Stk.cv (g := 18) (args := [.agg (c26 a0.Result)]) (args' := [.agg (c26 a0.Result)]) (v := .sc (.bool x6)) [] (ok_ast_FitType F _ _ hx6) (by simp [-splice, f1, f11, b_b1, ld_77_4_26]) rfl rfl (by simp [-splice, f1, f11, b_b1, ld_77_4_26]) (.cons (.free (fr26 _)) (.nil)) (.inl ⟨rfl, rfl⟩) (fun t' ht' => ?_)
      subst ht'
      refine evY_sound (f := 2) ?_; simp [-splice, f1, f11, b_b1, ld_77_4_26]
      exact Stk.ln 0 (by decide) (hJ2 _ _ _ ⟨x6, h, by and_intros <;> first | assumption | simp [-splice, f1, f11, b_b1, ld_77_4_26]⟩)
    · rw [hb2] at f11
      replace h := cF hb2 h
      refine evY_sound (f := 5) ?_; simp [-splice, f1, f11, b_b1]
      exact Stk.ln 0 (by decide) (hJ2 _ _ _ ⟨false, h, by and_intros <;> first | assumption | simp [-splice, f1, f11, b_b1]⟩)
  clear h f1 f11 b_b1 l_b1
  rintro t H n ⟨v5, h, f1, f15, b_b1, l_b1⟩
  subst hK2
  refine evY_sound (f := 1) ?_; simp [-splice, f1, f15, b_b1]
  refine Stk.gen (fun t H n => t 1 = .own b1 0 ∧ t 16 = .sc (.bool v5) ∧ H b1 = some (.cells (c77 a0) 77) ∧ b1 < n) (by and_intros <;> first | assumption | simp [-splice, f1, f15, b_b1]) ?_
  clear f1 f15 b_b1 l_b1
  rintro t H n ⟨f1, f16, b_b1, l_b1⟩
  obtain ⟨K3, hK3, h⟩ := jnd h
  refine Stk.jo 4 (fun t H n => ∃ v7 : Bool, K3 v7 = some r ∧ t 20 = .sc (.bool v7)) (fun J3 hJ3 => ?_) ?_
  · rcases Bool.eq_false_or_eq_true v5 with hb3 | hb3
    · rw [hb3] at f16
      replace h := cT hb3 h
      obtain ⟨x8, hx8, h⟩ := bnd h
      refine evY_sound (f := 2) ?_; simp [-splice, f1, f16, b_b1, ld_77_7_33]
      refine Stk.cv (g := 14) (args := [.agg (c33 a0.Body)]) (args' := [.agg (c33 a0.Body)]) (v := .sc (.bool x8)) [] (ok_ast_FitExpr F _ _ hx8) (by simp [-splice, f1, f16, b_b1, ld_77_7_33]) rfl rfl (by simp [-splice, f1, f16, b_b1, ld_77_7_33]) (.cons (.free (fr33 _)) (.nil)) (.inl ⟨rfl, rfl⟩) (fun t' ht' => ?_)
      subst ht'
      refine evY_sound (f := 2) ?_; simp [-splice, f1, f16, b_b1, ld_77_7_33]
      exact Stk.ln 0 (by decide) (hJ3 _ _ _ ⟨x8, h, by simp [-splice, f1, f16, b_b1, ld_77_7_33]⟩)
    · rw [hb3] at f16
      replace h := cF hb3 h
      refine evY_sound (f := 5) ?_; simp [-splice, f1, f16, b_b1]
      exact Stk.ln 0 (by decide) (hJ3 _ _ _ ⟨false, h, by simp [-splice, f1, f16, b_b1]⟩)
  clear h f1 f16 b_b1 l_b1
  rintro t H n ⟨v7, h, f20⟩
  subst hK3
  refine evY_sound (f := 3) ?_; simp [-splice, f20]
  have hq := Option.some.inj h; subst hq
  exact (hr _ _ _ (.sc (.bool v7)) ([]) (by simp [-splice, f20]) (.inr (.inr (.free (rfl))))).1
theorem ok_slices_IndexFunc_api_Hand_api_Hand (F : Nat) (a0 : (List api_Hand)) (φ1 : api_Hand → Option Bool) (g1 : FuncId) (first1 caps1 : List AV) (fr1 : freeL first1 = true ∧ freeL caps1 = true) (hφ1 : ∀ y0 r, φ1 y0 = some r → RunF Tryz.prog T.T g1 (first1 ++ [.agg (c83 y0)] ++ caps1) (.sc (.bool r))) (r : Int) (h : slices_IndexFunc_api_Hand_api_Hand F a0 φ1 = some r) : RunF Tryz.prog T.T 171 [.ssl (encs c83 a0) a0.length false, .fn (.func g1) first1 caps1] (.sc (.int .i64 r)) := by
  rw [slices_IndexFunc_api_Hand_api_Hand] at h
  refine RunF.z Tryz.func171 rfl rfl rfl rfl rfl (fun C hr => ?_)
  refine Stk.gen (fun t H n => t 0 = .ssl (encs c83 a0) a0.length false ∧ t 1 = .fn (.func g1) first1 caps1) ⟨by simp, by simp⟩ ?_
  rintro t H n ⟨f0, f1⟩
  refine evY_sound (f := 12) ?_; simp [-splice, f0, f1]
  refine Stk.gen (fun t H n => t 0 = .ssl (encs c83 a0) a0.length false ∧ t 1 = .fn (.func g1) first1 caps1 ∧ t 7 = .sc (.int .i64 (a0.length : Int)) ∧ t 8 = .sc (.int .i64 0)) (by and_intros <;> first | assumption | simp [-splice, f0, f1]) ?_
  clear f0 f1
  rintro t H n ⟨f0, f1, f7, f8⟩
  refine Stk.lo (fun μ t H n => ∃ v1 : Int, slices_IndexFunc_api_Hand_api_Hand_L0 F a0 φ1 μ v1 = some r ∧ t 0 = .ssl (encs c83 a0) a0.length false ∧ t 1 = .fn (.func g1) first1 caps1 ∧ t 7 = .sc (.int .i64 (a0.length : Int)) ∧ t 8 = .sc (.int .i64 v1)) F ⟨0, h, f0, f1, f7, f8⟩ ?_
  clear h f0 f1 f7 f8
  rintro J1 hJ1 μ t H n ⟨v1, h, f0, f1, f7, f8⟩
  cases μ with
  | zero => exact absurd h (by simp [slices_IndexFunc_api_Hand_api_Hand_L0])
  | succ μ =>
  rw [slices_IndexFunc_api_Hand_api_Hand_L0] at h
  refine evY_sound (f := 5) ?_; simp [-splice, f0, f1, f7, f8]
  refine Stk.cond (decide (v1 < (a0.length : Int))) (by simp [-splice, f0, f1, f7, f8]) (fun hb3 => ?_) (fun hb3 => ?_)
  ·have h := cT hb3 h
   obtain ⟨x4, hx4, h⟩ := bnd h
   obtain ⟨i0x4, i1x4, i2x4, _⟩ := idx_ok hx4
   have ex4_0_83 : partOf T.T 83 (encs c83 a0) (v1.toNat * 16) = some (.agg (c83 x4)) := by
       have e0 := part_elem0 (e := c83) (z := 16) (T := T.T) (ty := 83) T.t83 (by decide) (by decide) hx4 0 (by decide)
       (try simp only [Nat.mul_one, Nat.add_zero] at e0)
       exact e0.trans (ld_83_0_83 _)
   obtain ⟨x5, hx5, h⟩ := bnd h
   refine evY_sound (f := 15) ?_; simp [-splice, f0, f1, f7, f8, i0x4, i1x4, pd83, ex4_0_83]
   refine Stk.cv (g := g1) (first := first1) (caps := caps1) (args := first1 ++ [.agg (c83 x4)] ++ caps1) (args' := first1 ++ [.agg (c83 x4)] ++ caps1) (v := .sc (.bool x5)) [] (hφ1 _ _ hx5) (by simp [-splice, f0, f1, f7, f8, i0x4, i1x4, pd83, ex4_0_83]) rfl (by simp [-splice, f0, f1, f7, f8, i0x4, i1x4, pd83, ex4_0_83]) (by simp [-splice, f0, f1, f7, f8, i0x4, i1x4, pd83, ex4_0_83]) (viewL_mid (x := [.agg (c83 x4)]) (y := [.agg (c83 x4)]) fr1.1 fr1.2 (.cons (.free (fr83 _)) (.nil))) (.inl ⟨rfl, rfl⟩) (fun t' ht' => ?_)
   subst ht'
   refine evY_sound (f := 1) ?_; simp [-splice, f0, f1, f7, f8, i0x4, i1x4, pd83, ex4_0_83]
   refine Stk.cond x5 (by simp [-splice, f0, f1, f7, f8, i0x4, i1x4, pd83, ex4_0_83]) (fun hb6 => ?_) (fun hb6 => ?_)
   ·have h := cT hb6 h
    refine evY_sound (f := 6) ?_; simp [-splice, f0, f1, f7, f8, i0x4, i1x4, pd83, ex4_0_83]
    have hq := Option.some.inj h; subst hq
    exact (hr _ _ _ (.sc (.int .i64 v1)) ([]) (by simp [-splice, f0, f1, f7, f8, i0x4, i1x4, pd83, ex4_0_83]) (.inr (.inr (.free (rfl))))).1
   ·have h := cF hb6 h
    refine evY_sound (f := 6) ?_; simp [-splice, f0, f1, f7, f8, i0x4, i1x4, pd83, ex4_0_83]
    exact Stk.ln μ (Nat.lt_succ_self _) (hJ1 _ _ _ _ ⟨(IntKind.i64.wrap (v1 + 1)), h, by and_intros <;> first | assumption | simp [-splice, f0, f1, f7, f8, i0x4, i1x4, pd83, ex4_0_83]⟩)
  ·have h := cF hb3 h
   refine Stk.ex rfl ?_
   refine evY_sound (f := 5) ?_; simp [-splice, f0, f1, f7, f8]
   have hq := Option.some.inj h; subst hq
   exact (hr _ _ _ (.sc (.int .i64 (-1))) ([]) (by simp [-splice, f0, f1, f7, f8]) (.inr (.inr (.free (rfl))))).1
theorem ok_slices_ContainsFunc_api_Hand_api_Hand (F : Nat) (a0 : (List api_Hand)) (φ1 : api_Hand → Option Bool) (g1 : FuncId) (first1 caps1 : List AV) (fr1 : freeL first1 = true ∧ freeL caps1 = true) (hφ1 : ∀ y0 r, φ1 y0 = some r → RunF Tryz.prog T.T g1 (first1 ++ [.agg (c83 y0)] ++ caps1) (.sc (.bool r))) (r : Bool) (h : slices_ContainsFunc_api_Hand_api_Hand F a0 φ1 = some r) : RunF Tryz.prog T.T 110 [.ssl (encs c83 a0) a0.length false, .fn (.func g1) first1 caps1] (.sc (.bool r)) := by
  rw [slices_ContainsFunc_api_Hand_api_Hand] at h
  refine RunF.z Tryz.func110 rfl rfl rfl rfl rfl (fun C hr => ?_)
  refine Stk.gen (fun t H n => t 0 = .ssl (encs c83 a0) a0.length false ∧ t 1 = .fn (.func g1) first1 caps1) ⟨by simp, by simp⟩ ?_
  rintro t H n ⟨f0, f1⟩
  obtain ⟨x1, hx1, h⟩ := bnd h
  refine evY_sound (f := 8) ?_; simp [-splice, f0, f1]
  refine Stk.cv (g := 171) (args := [.ssl (encs c83 a0) a0.length false, .fn (.func g1) first1 caps1]) (args' := [.ssl (encs c83 a0) a0.length false, .fn (.func g1) first1 caps1]) (v := .sc (.int .i64 x1)) [] (ok_slices_IndexFunc_api_Hand_api_Hand F _ _ _ _ _ fr1 hφ1 _ hx1) (by simp [-splice, f0, f1]) rfl rfl (by simp [-splice, f0, f1]) (.cons (.free (freeL_encs fr83 _)) (.cons (.free (by simp [free, fr1])) (.nil))) (.inl ⟨rfl, rfl⟩) (fun t' ht' => ?_)
  subst ht'
  refine evY_sound (f := 4) ?_; simp [-splice, f0, f1]
  have hq := Option.some.inj h; subst hq
  exact (hr _ _ _ (.sc (.bool (decide (0 ≤ x1)))) ([]) (by simp [-splice, f0, f1]) (.inr (.inr (.free (rfl))))).1
theorem ok_ast_every_api_Hand_1 (F : Nat) (a0 : api_Hand) (φ1 : api_Hand → Option Bool) (g1 : FuncId) (first1 caps1 : List AV) (fr1 : freeL first1 = true ∧ freeL caps1 = true) (hφ1 : ∀ y0 r, φ1 y0 = some r → RunF Tryz.prog T.T g1 (first1 ++ [.agg (c83 y0)] ++ caps1) (.sc (.bool r))) (r : Bool) (h : ast_every_api_Hand_1 F a0 φ1 = some r) : RunF Tryz.prog T.T 111 [.agg (c83 a0), .sh [.fn (.func g1) first1 caps1]] (.sc (.bool r)) := by
  rw [ast_every_api_Hand_1] at h
  refine RunF.z Tryz.func111 rfl rfl rfl rfl rfl (fun C hr => ?_)
  refine Stk.gen (fun t H n => t 0 = .agg (c83 a0) ∧ t 1 = .sh [.fn (.func g1) first1 caps1]) ⟨by simp, by simp⟩ ?_
  rintro t H n ⟨f0, f1⟩
  refine evY_sound (f := 2) ?_; simp [-splice, f0, f1]
  refine Stk.gen (fun t H n => t 0 = .agg (c83 a0) ∧ t 1 = .sh [.fn (.func g1) first1 caps1]) (by and_intros <;> first | assumption | simp [-splice, f0, f1]) ?_
  clear f0 f1
  rintro t H n ⟨f0, f1⟩
  refine Stk.om (mop_box T.t83 (cs := c83 a0) (by show partOk (t 0) = true; rw [f0]; rfl) (by show cellsOf (t 0) = _; rw [f0]; rfl)) (by simp [f0, f1]) rfl (fun t' ht' => ?_)
  refine Stk.gen (fun t H n => ∃ b1, t 1 = .sh [.fn (.func g1) first1 caps1] ∧ t 2 = .own b1 0 ∧ H b1 = some (.cells (c83 a0) 83) ∧ b1 < n) ⟨n, by simp [ht', f1], by simp [ht'], upd_same _ _ _, Nat.lt_succ_self _⟩ ?_
  clear f0 f1 ht' t'
  rintro t H n ⟨b1, f1, f2, b_b1, l_b1⟩
  obtain ⟨x2, hx2, h⟩ := bnd h
  refine evY_sound (f := 6) ?_; simp [-splice, f1, f2, b_b1, ldF84, ld_83_0_83]
  refine Stk.cv (g := g1) (first := first1) (caps := caps1) (args := first1 ++ [.agg (c83 a0)] ++ caps1) (args' := first1 ++ [.agg (c83 a0)] ++ caps1) (v := .sc (.bool x2)) [] (hφ1 _ _ hx2) (by simp [-splice, f1, f2, b_b1, ldF84, ld_83_0_83]) rfl (by simp [-splice, f1, f2, b_b1, ldF84, ld_83_0_83]) (by simp [-splice, f1, f2, b_b1, ldF84, ld_83_0_83]) (viewL_mid (x := [.agg (c83 a0)]) (y := [.agg (c83 a0)]) fr1.1 fr1.2 (.cons (.free (fr83 _)) (.nil))) (.inl ⟨rfl, rfl⟩) (fun t' ht' => ?_)
  subst ht'
  refine evY_sound (f := 4) ?_; simp [-splice, f1, f2, b_b1, ldF84, ld_83_0_83]
  have hq := Option.some.inj h; subst hq
  exact (hr _ _ _ (.sc (.bool (!x2))) ([]) (by simp [-splice, f1, f2, b_b1, ldF84, ld_83_0_83]) (.inr (.inr (.free (rfl))))).1
theorem ok_ast_every_api_Hand (F : Nat) (a0 : (List api_Hand)) (a1 : Int) (a2 : Int) (φ3 : api_Hand → Option Bool) (g3 : FuncId) (first3 caps3 : List AV) (fr3 : freeL first3 = true ∧ freeL caps3 = true) (hφ3 : ∀ y0 r, φ3 y0 = some r → RunF Tryz.prog T.T g3 (first3 ++ [.agg (c83 y0)] ++ caps3) (.sc (.bool r))) (r : Bool) (h : ast_every_api_Hand F a0 a1 a2 φ3 = some r) : RunF Tryz.prog T.T 41 [.ssl (encs c83 a0) a0.length false, .sc (.int .i64 a1), .sc (.int .i64 a2), .fn (.func g3) first3 caps3] (.sc (.bool r)) := by
  rw [ast_every_api_Hand] at h
  refine RunF.z Tryz.func41 rfl rfl rfl rfl rfl (fun C hr => ?_)
  refine Stk.gen (fun t H n => t 0 = .ssl (encs c83 a0) a0.length false ∧ t 1 = .sc (.int .i64 a1) ∧ t 2 = .sc (.int .i64 a2) ∧ t 3 = .fn (.func g3) first3 caps3) ⟨by simp, by simp, by simp, by simp⟩ ?_
  rintro t H n ⟨f0, f1, f2, f3⟩
  refine evY_sound (f := 2) ?_; simp [-splice, f0, f1, f2, f3]
  refine Stk.gen (fun t H n => t 0 = .ssl (encs c83 a0) a0.length false ∧ t 1 = .sc (.int .i64 a1) ∧ t 2 = .sc (.int .i64 a2) ∧ t 3 = .fn (.func g3) first3 caps3) (by and_intros <;> first | assumption | simp [-splice, f0, f1, f2, f3]) ?_
  clear f0 f1 f2 f3
  rintro t H n ⟨f0, f1, f2, f3⟩
  refine Stk.om (mop_box T.t84 (cs := [.fn (.func g3) first3 caps3]) (by show partOk (t 3) = true; rw [f3]; rfl) (by show cellsOf (t 3) = _; rw [f3]; rfl)) (by simp [f0, f1, f2, f3]) rfl (fun t' ht' => ?_)
  refine Stk.gen (fun t H n => ∃ b1, t 0 = .ssl (encs c83 a0) a0.length false ∧ t 1 = .sc (.int .i64 a1) ∧ t 2 = .sc (.int .i64 a2) ∧ t 7 = .own b1 0 ∧ H b1 = some (.cells ([.fn (.func g3) first3 caps3]) 84) ∧ b1 < n) ⟨n, by simp [ht', f0], by simp [ht', f1], by simp [ht', f2], by simp [ht'], upd_same _ _ _, Nat.lt_succ_self _⟩ ?_
  clear f0 f1 f2 f3 ht' t'
  rintro t H n ⟨b1, f0, f1, f2, f7, b_b1, l_b1⟩
  refine evY_sound (f := 9) ?_; simp [-splice, f0, f1, f2, f7, b_b1]
  refine Stk.gd 5 13 18 (fun z => .sc (.bool (z && (decide ((a0.length : Int) ≤ a2))))) (w := decide (a1 ≤ (a0.length : Int))) (by simp [-splice, f0, f1, f2, f7, b_b1]) (by simp [-splice, f0, f1, f2, f7, b_b1]) (by simp [-splice, f0, f1, f2, f7, b_b1]) ?_; simp [-splice, f0, f1, f2, f7, b_b1]
  refine evY_sound (f := 1) ?_; simp [-splice, f0, f1, f2, f7, b_b1]
  refine Stk.gen (fun t H n => t 0 = .ssl (encs c83 a0) a0.length false ∧ t 7 = .own b1 0 ∧ t 19 = .sc (.bool ((decide (a1 ≤ (a0.length : Int))) && (decide ((a0.length : Int) ≤ a2)))) ∧ H b1 = some (.cells ([.fn (.func g3) first3 caps3]) 84) ∧ b1 < n) (by and_intros <;> first | assumption | simp [-splice, f0, f1, f2, f7, b_b1]) ?_
  clear f0 f1 f2 f7 b_b1 l_b1
  rintro t H n ⟨f0, f7, f19, b_b1, l_b1⟩
  obtain ⟨K1, hK1, h⟩ := jnd h
  refine Stk.jo 5 (fun t H n => ∃ v2 : Bool, K1 v2 = some r ∧ t 24 = .sc (.bool v2)) (fun J1 hJ1 => ?_) ?_
  · rcases Bool.eq_false_or_eq_true ((decide (a1 ≤ (a0.length : Int))) && (decide ((a0.length : Int) ≤ a2))) with hb1 | hb1
    · rw [hb1] at f19
      replace h := cT hb1 h
      obtain ⟨x3, hx3, h⟩ := bnd h
      refine evY_sound (f := 2) ?_; simp [-splice, f0, f7, f19, b_b1]
      refine Stk.cv (g := 110) (args := [.ssl (encs c83 a0) a0.length false, .fn (.func 111) [] [.own b1 0]]) (args' := [.ssl (encs c83 a0) a0.length false, .fn (.func 111) [] [.sh [.fn (.func g3) first3 caps3]]]) (v := .sc (.bool x3)) [b1] (ok_slices_ContainsFunc_api_Hand_api_Hand F _ _ 111 [] [.sh [.fn (.func g3) first3 caps3]] (by and_intros <;> first | assumption | simp [freeL, free, fr3]) (fun y0 r h => ok_ast_every_api_Hand_1 F y0 _ _ _ _ fr3 hφ3 r h) _ hx3) (by simp [-splice, f0, f7, f19, b_b1]) rfl rfl (by simp [-splice, f0, f7, f19, b_b1]) (.cons (.free (freeL_encs fr83 _)) (.cons (.fn .nil (.cons (view_blk b_b1 (by simp) (by simp [freeL, free, fr3])) (.nil))) (.nil))) (.inr rfl) (fun t' ht' => ?_)
      subst ht'
      refine evY_sound (f := 3) ?_; simp [-splice, f0, f7, f19, b_b1]
      exact Stk.ln 0 (by decide) (hJ1 _ _ _ ⟨(!x3), h, by simp [-splice, f0, f7, f19, b_b1]⟩)
    · rw [hb1] at f19
      replace h := cF hb1 h
      refine evY_sound (f := 6) ?_; simp [-splice, f0, f7, f19, b_b1]
      exact Stk.ln 0 (by decide) (hJ1 _ _ _ ⟨false, h, by simp [-splice, f0, f7, f19, b_b1]⟩)
  clear h f0 f7 f19 b_b1 l_b1
  rintro t H n ⟨v2, h, f24⟩
  subst hK1
  refine evY_sound (f := 3) ?_; simp [-splice, f24]
  have hq := Option.some.inj h; subst hq
  exact (hr _ _ _ (.sc (.bool v2)) ([]) (by simp [-splice, f24]) (.inr (.inr (.free (rfl))))).1
theorem ok_ast_fitHand (F : Nat) (a0 : api_Hand) (r : Bool) (h : ast_fitHand F a0 = some r) : RunF Tryz.prog T.T 42 [.agg (c83 a0)] (.sc (.bool r)) := by
  rw [ast_fitHand] at h
  refine RunF.z Tryz.func42 rfl rfl rfl rfl rfl (fun C hr => ?_)
  refine Stk.gen (fun t H n => t 0 = .agg (c83 a0)) (by simp) ?_
  rintro t H n f0
  refine evY_sound (f := 2) ?_; simp [-splice, f0]
  refine Stk.gen (fun t H n => t 0 = .agg (c83 a0)) (by simp [-splice, f0]) ?_
  clear f0
  rintro t H n f0
  refine Stk.om (mop_box T.t83 (cs := c83 a0) (by show partOk (t 0) = true; rw [f0]; rfl) (by show cellsOf (t 0) = _; rw [f0]; rfl)) (by simp [f0]) rfl (fun t' ht' => ?_)
  refine Stk.gen (fun t H n => ∃ b1, t 1 = .own b1 0 ∧ H b1 = some (.cells (c83 a0) 83) ∧ b1 < n) ⟨n, by simp [ht'], upd_same _ _ _, Nat.lt_succ_self _⟩ ?_
  clear f0 ht' t'
  rintro t H n ⟨b1, f1, b_b1, l_b1⟩
  obtain ⟨x2, hx2, h⟩ := bnd h
  refine evY_sound (f := 6) ?_; simp [-splice, f1, b_b1, ld_83_2_9]
  refine Stk.cv (g := 112) (args := [.sc (.string a0.Name)]) (args' := [.sc (.string a0.Name)]) (v := .sc (.bool x2)) [] (ok_ast_small F _ _ hx2) (by simp [-splice, f1, b_b1, ld_83_2_9]) rfl rfl (by simp [-splice, f1, b_b1, ld_83_2_9]) (.cons (.free (rfl)) (.nil)) (.inl ⟨rfl, rfl⟩) (fun t' ht' => ?_)
  subst ht'
  refine evY_sound (f := 1) ?_; simp [-splice, f1, b_b1, ld_83_2_9]
  refine Stk.gen (fun t H n => t 1 = .own b1 0 ∧ t 6 = .sc (.bool x2) ∧ H b1 = some (.cells (c83 a0) 83) ∧ b1 < n) (by and_intros <;> first | assumption | simp [-splice, f1, b_b1, ld_83_2_9]) ?_
  clear f1 b_b1 l_b1
  rintro t H n ⟨f1, f6, b_b1, l_b1⟩
  obtain ⟨K1, hK1, h⟩ := jnd h
  refine Stk.jo 4 (fun t H n => ∃ v3 : Bool, K1 v3 = some r ∧ t 1 = .own b1 0 ∧ t 10 = .sc (.bool v3) ∧ H b1 = some (.cells (c83 a0) 83) ∧ b1 < n) (fun J1 hJ1 => ?_) ?_
  · rcases Bool.eq_false_or_eq_true x2 with hb1 | hb1
    · rw [hb1] at f6
      replace h := cT hb1 h
      obtain ⟨x4, hx4, h⟩ := bnd h
      refine evY_sound (f := 2) ?_; simp [-splice, f1, f6, b_b1, ld_83_3_81]
      refine Stk.cv (g := 109) (args := [.agg (c81 a0.Param)]) (args' := [.agg (c81 a0.Param)]) (v := .sc (.bool x4)) [] (ok_ast_fitParam F _ _ hx4) (by simp [-splice, f1, f6, b_b1, ld_83_3_81]) rfl rfl (by simp [-splice, f1, f6, b_b1, ld_83_3_81]) (.cons (.free (fr81 _)) (.nil)) (.inl ⟨rfl, rfl⟩) (fun t' ht' => ?_)
      subst ht'
      refine evY_sound (f := 2) ?_; simp [-splice, f1, f6, b_b1, ld_83_3_81]
      exact Stk.ln 0 (by decide) (hJ1 _ _ _ ⟨x4, h, by and_intros <;> first | assumption | simp [-splice, f1, f6, b_b1, ld_83_3_81]⟩)
    · rw [hb1] at f6
      replace h := cF hb1 h
      refine evY_sound (f := 5) ?_; simp [-splice, f1, f6, b_b1]
      exact Stk.ln 0 (by decide) (hJ1 _ _ _ ⟨false, h, by and_intros <;> first | assumption | simp [-splice, f1, f6, b_b1]⟩)
  clear h f1 f6 b_b1 l_b1
  rintro t H n ⟨v3, h, f1, f10, b_b1, l_b1⟩
  subst hK1
  refine evY_sound (f := 1) ?_; simp [-splice, f1, f10, b_b1]
  refine Stk.gd 4 11 15 (fun z => .sc (.bool (z && (decide (0 ≤ a0.Cap))))) (w := v3) (by simp [-splice, f1, f10, b_b1]) (by simp [-splice, f1, f10, b_b1, ld_83_7_3]) (by simp [-splice, f1, f10, b_b1, ld_83_7_3]) ?_; simp [-splice, f1, f10, b_b1]
  refine evY_sound (f := 1) ?_; simp [-splice, f1, f10, b_b1]
  refine Stk.gd 4 16 20 (fun z => .sc (.bool (z && (decide (a0.Cap ≤ 64))))) (w := (v3 && (decide (0 ≤ a0.Cap)))) (by simp [-splice, f1, f10, b_b1]) (by simp [-splice, f1, f10, b_b1, ld_83_7_3]) (by simp [-splice, f1, f10, b_b1, ld_83_7_3]) ?_; simp [-splice, f1, f10, b_b1]
  refine evY_sound (f := 1) ?_; simp [-splice, f1, f10, b_b1]
  refine Stk.gen (fun t H n => t 1 = .own b1 0 ∧ t 21 = .sc (.bool ((v3 && (decide (0 ≤ a0.Cap))) && (decide (a0.Cap ≤ 64)))) ∧ H b1 = some (.cells (c83 a0) 83) ∧ b1 < n) (by and_intros <;> first | assumption | simp [-splice, f1, f10, b_b1]) ?_
  clear f1 f10 b_b1 l_b1
  rintro t H n ⟨f1, f21, b_b1, l_b1⟩
  obtain ⟨K2, hK2, h⟩ := jnd h
  refine Stk.jo 4 (fun t H n => ∃ v5 : Bool, K2 v5 = some r ∧ t 25 = .sc (.bool v5)) (fun J2 hJ2 => ?_) ?_
  · rcases Bool.eq_false_or_eq_true ((v3 && (decide (0 ≤ a0.Cap))) && (decide (a0.Cap ≤ 64))) with hb2 | hb2
    · rw [hb2] at f21
      replace h := cT hb2 h
      obtain ⟨x6, hx6, h⟩ := bnd h
      refine evY_sound (f := 2) ?_; simp [-splice, f1, f21, b_b1, ld_83_8_33]
      refine Stk.cv (g := 14) (args := [.agg (c33 a0.Body)]) (args' := [.agg (c33 a0.Body)]) (v := .sc (.bool x6)) [] (ok_ast_FitExpr F _ _ hx6) (by simp [-splice, f1, f21, b_b1, ld_83_8_33]) rfl rfl (by simp [-splice, f1, f21, b_b1, ld_83_8_33]) (.cons (.free (fr33 _)) (.nil)) (.inl ⟨rfl, rfl⟩) (fun t' ht' => ?_)
      subst ht'
      refine evY_sound (f := 2) ?_; simp [-splice, f1, f21, b_b1, ld_83_8_33]
      exact Stk.ln 0 (by decide) (hJ2 _ _ _ ⟨x6, h, by simp [-splice, f1, f21, b_b1, ld_83_8_33]⟩)
    · rw [hb2] at f21
      replace h := cF hb2 h
      refine evY_sound (f := 5) ?_; simp [-splice, f1, f21, b_b1]
      exact Stk.ln 0 (by decide) (hJ2 _ _ _ ⟨false, h, by simp [-splice, f1, f21, b_b1]⟩)
  clear h f1 f21 b_b1 l_b1
  rintro t H n ⟨v5, h, f25⟩
  subst hK2
  refine evY_sound (f := 3) ?_; simp [-splice, f25]
  have hq := Option.some.inj h; subst hq
  exact (hr _ _ _ (.sc (.bool v5)) ([]) (by simp [-splice, f25]) (.inr (.inr (.free (rfl))))).1
theorem ok_ast_Fit (F : Nat) (a0 : api_Prog) (r : Bool) (h : ast_Fit F a0 = some r) : RunF Tryz.prog T.T 12 [.agg (c36 a0)] (.sc (.bool r)) := by
  rw [ast_Fit] at h
  refine RunF.z Tryz.func12 rfl rfl rfl rfl rfl (fun C hr => ?_)
  refine Stk.gen (fun t H n => t 0 = .agg (c36 a0)) (by simp) ?_
  rintro t H n f0
  refine evY_sound (f := 2) ?_; simp [-splice, f0]
  refine Stk.gen (fun t H n => t 0 = .agg (c36 a0)) (by simp [-splice, f0]) ?_
  clear f0
  rintro t H n f0
  refine Stk.om (mop_box T.t36 (cs := c36 a0) (by show partOk (t 0) = true; rw [f0]; rfl) (by show cellsOf (t 0) = _; rw [f0]; rfl)) (by simp [f0]) rfl (fun t' ht' => ?_)
  refine Stk.gen (fun t H n => ∃ b1, t 1 = .own b1 0 ∧ H b1 = some (.cells (c36 a0) 36) ∧ b1 < n) ⟨n, by simp [ht'], upd_same _ _ _, Nat.lt_succ_self _⟩ ?_
  clear f0 ht' t'
  rintro t H n ⟨b1, f1, b_b1, l_b1⟩
  refine evY_sound (f := 9) ?_; simp [-splice, f1, b_b1, ld_36_2_3]
  refine Stk.gd 4 6 10 (fun z => .sc (.bool (z || (decide (32 < a0.Queue))))) (w := decide (a0.Queue < 1)) (by simp [-splice, f1, b_b1, ld_36_2_3]) (by simp [-splice, f1, b_b1, ld_36_2_3]) (by simp [-splice, f1, b_b1, ld_36_2_3]) ?_; simp [-splice, f1, b_b1, ld_36_2_3]
  refine evY_sound (f := 1) ?_; simp [-splice, f1, b_b1, ld_36_2_3]
  refine Stk.gd 4 11 15 (fun z => .sc (.bool (z || (decide (a0.Timers < 0))))) (w := ((decide (a0.Queue < 1)) || (decide (32 < a0.Queue)))) (by simp [-splice, f1, b_b1, ld_36_2_3]) (by simp [-splice, f1, b_b1, ld_36_2_3, ld_36_3_3]) (by simp [-splice, f1, b_b1, ld_36_2_3, ld_36_3_3]) ?_; simp [-splice, f1, b_b1, ld_36_2_3]
  refine evY_sound (f := 1) ?_; simp [-splice, f1, b_b1, ld_36_2_3]
  refine Stk.gd 4 16 20 (fun z => .sc (.bool (z || (decide (32 < a0.Timers))))) (w := (((decide (a0.Queue < 1)) || (decide (32 < a0.Queue))) || (decide (a0.Timers < 0)))) (by simp [-splice, f1, b_b1, ld_36_2_3]) (by simp [-splice, f1, b_b1, ld_36_2_3, ld_36_3_3]) (by simp [-splice, f1, b_b1, ld_36_2_3, ld_36_3_3]) ?_; simp [-splice, f1, b_b1, ld_36_2_3]
  refine evY_sound (f := 1) ?_; simp [-splice, f1, b_b1, ld_36_2_3]
  refine Stk.gd 4 21 25 (fun z => .sc (.bool (z || (decide (a0.Cap < 0))))) (w := ((((decide (a0.Queue < 1)) || (decide (32 < a0.Queue))) || (decide (a0.Timers < 0))) || (decide (32 < a0.Timers)))) (by simp [-splice, f1, b_b1, ld_36_2_3]) (by simp [-splice, f1, b_b1, ld_36_2_3, ld_36_7_3]) (by simp [-splice, f1, b_b1, ld_36_2_3, ld_36_7_3]) ?_; simp [-splice, f1, b_b1, ld_36_2_3]
  refine evY_sound (f := 1) ?_; simp [-splice, f1, b_b1, ld_36_2_3]
  refine Stk.gd 4 26 30 (fun z => .sc (.bool (z || (decide (256 < a0.Cap))))) (w := (((((decide (a0.Queue < 1)) || (decide (32 < a0.Queue))) || (decide (a0.Timers < 0))) || (decide (32 < a0.Timers))) || (decide (a0.Cap < 0)))) (by simp [-splice, f1, b_b1, ld_36_2_3]) (by simp [-splice, f1, b_b1, ld_36_2_3, ld_36_7_3]) (by simp [-splice, f1, b_b1, ld_36_2_3, ld_36_7_3]) ?_; simp [-splice, f1, b_b1, ld_36_2_3]
  refine evY_sound (f := 1) ?_; simp [-splice, f1, b_b1, ld_36_2_3]
  refine Stk.gen (fun t H n => t 1 = .own b1 0 ∧ t 31 = .sc (.bool ((((((decide (a0.Queue < 1)) || (decide (32 < a0.Queue))) || (decide (a0.Timers < 0))) || (decide (32 < a0.Timers))) || (decide (a0.Cap < 0))) || (decide (256 < a0.Cap)))) ∧ H b1 = some (.cells (c36 a0) 36) ∧ b1 < n) (by and_intros <;> first | assumption | simp [-splice, f1, b_b1, ld_36_2_3]) ?_
  clear f1 b_b1 l_b1
  rintro t H n ⟨f1, f31, b_b1, l_b1⟩
  obtain ⟨K1, hK1, h⟩ := jnd h
  refine Stk.jo 5 (fun t H n => ∃ v2 : Bool, K1 v2 = some r ∧ t 1 = .own b1 0 ∧ t 36 = .sc (.bool v2) ∧ H b1 = some (.cells (c36 a0) 36) ∧ b1 < n) (fun J1 hJ1 => ?_) ?_
  · rcases Bool.eq_false_or_eq_true ((((((decide (a0.Queue < 1)) || (decide (32 < a0.Queue))) || (decide (a0.Timers < 0))) || (decide (32 < a0.Timers))) || (decide (a0.Cap < 0))) || (decide (256 < a0.Cap))) with hb1 | hb1
    · rw [hb1] at f31
      replace h := cT hb1 h
      refine evY_sound (f := 6) ?_; simp [-splice, f1, f31, b_b1]
      exact Stk.ln 0 (by decide) (hJ1 _ _ _ ⟨true, h, by and_intros <;> first | assumption | simp [-splice, f1, f31, b_b1]⟩)
    · rw [hb1] at f31
      replace h := cF hb1 h
      obtain ⟨x3, hx3, h⟩ := bnd h
      refine evY_sound (f := 2) ?_; simp [-splice, f1, f31, b_b1, ld_36_4_26]
      refine Stk.cv (g := 18) (args := [.agg (c26 a0.State)]) (args' := [.agg (c26 a0.State)]) (v := .sc (.bool x3)) [] (ok_ast_FitType F _ _ hx3) (by simp [-splice, f1, f31, b_b1, ld_36_4_26]) rfl rfl (by simp [-splice, f1, f31, b_b1, ld_36_4_26]) (.cons (.free (fr26 _)) (.nil)) (.inl ⟨rfl, rfl⟩) (fun t' ht' => ?_)
      subst ht'
      refine evY_sound (f := 3) ?_; simp [-splice, f1, f31, b_b1, ld_36_4_26]
      exact Stk.ln 0 (by decide) (hJ1 _ _ _ ⟨(!x3), h, by and_intros <;> first | assumption | simp [-splice, f1, f31, b_b1, ld_36_4_26]⟩)
  clear h f1 f31 b_b1 l_b1
  rintro t H n ⟨v2, h, f1, f36, b_b1, l_b1⟩
  subst hK1
  refine evY_sound (f := 1) ?_; simp [-splice, f1, f36, b_b1]
  refine Stk.gen (fun t H n => t 1 = .own b1 0 ∧ t 37 = .sc (.bool v2) ∧ H b1 = some (.cells (c36 a0) 36) ∧ b1 < n) (by and_intros <;> first | assumption | simp [-splice, f1, f36, b_b1]) ?_
  clear f1 f36 b_b1 l_b1
  rintro t H n ⟨f1, f37, b_b1, l_b1⟩
  obtain ⟨K2, hK2, h⟩ := jnd h
  refine Stk.jo 5 (fun t H n => ∃ v4 : Bool, K2 v4 = some r ∧ t 1 = .own b1 0 ∧ t 42 = .sc (.bool v4) ∧ H b1 = some (.cells (c36 a0) 36) ∧ b1 < n) (fun J2 hJ2 => ?_) ?_
  · rcases Bool.eq_false_or_eq_true v2 with hb2 | hb2
    · rw [hb2] at f37
      replace h := cT hb2 h
      refine evY_sound (f := 6) ?_; simp [-splice, f1, f37, b_b1]
      exact Stk.ln 0 (by decide) (hJ2 _ _ _ ⟨true, h, by and_intros <;> first | assumption | simp [-splice, f1, f37, b_b1]⟩)
    · rw [hb2] at f37
      replace h := cF hb2 h
      obtain ⟨x5, hx5, h⟩ := bnd h
      refine evY_sound (f := 2) ?_; simp [-splice, f1, f37, b_b1, ld_36_8_33]
      refine Stk.cv (g := 14) (args := [.agg (c33 a0.Init)]) (args' := [.agg (c33 a0.Init)]) (v := .sc (.bool x5)) [] (ok_ast_FitExpr F _ _ hx5) (by simp [-splice, f1, f37, b_b1, ld_36_8_33]) rfl rfl (by simp [-splice, f1, f37, b_b1, ld_36_8_33]) (.cons (.free (fr33 _)) (.nil)) (.inl ⟨rfl, rfl⟩) (fun t' ht' => ?_)
      subst ht'
      refine evY_sound (f := 3) ?_; simp [-splice, f1, f37, b_b1, ld_36_8_33]
      exact Stk.ln 0 (by decide) (hJ2 _ _ _ ⟨(!x5), h, by and_intros <;> first | assumption | simp [-splice, f1, f37, b_b1, ld_36_8_33]⟩)
  clear h f1 f37 b_b1 l_b1
  rintro t H n ⟨v4, h, f1, f42, b_b1, l_b1⟩
  subst hK2
  refine evY_sound (f := 1) ?_; simp [-splice, f1, f42, b_b1]
  refine Stk.cond v4 (by simp [-splice, f1, f42, b_b1]) (fun hb6 => ?_) (fun hb6 => ?_)
  ·have h := cT hb6 h
   refine evY_sound (f := 5) ?_; simp [-splice, f1, f42, b_b1]
   have hq := Option.some.inj h; subst hq
   exact (hr _ _ _ (.sc (.bool false)) ([]) (by simp [-splice, f1, f42, b_b1]) (.inr (.inr (.free (rfl))))).1
  ·have h := cF hb6 h
   obtain ⟨x7, hx7, h⟩ := bnd h
   refine evY_sound (f := 5) ?_; simp [-splice, f1, f42, b_b1, ld_36_0_22]
   refine Stk.cv (g := 37) (args := [.ssl (encs c72 a0.Datas) a0.Datas.length false, .sc (.int .i64 0), .sc (.int .i64 32), .fn (.func 38) [] []]) (args' := [.ssl (encs c72 a0.Datas) a0.Datas.length false, .sc (.int .i64 0), .sc (.int .i64 32), .fn (.func 38) [] []]) (v := .sc (.bool x7)) [] (ok_ast_every_api_Data F _ _ _ _ 38 [] [] (by and_intros <;> first | assumption | simp [freeL, free]) (fun y0 r h => ok_ast_fitData F y0 r h) _ hx7) (by simp [-splice, f1, f42, b_b1, ld_36_0_22]) rfl rfl (by simp [-splice, f1, f42, b_b1, ld_36_0_22]) (.cons (.free (freeL_encs fr72 _)) (.cons (.free (rfl)) (.cons (.free (rfl)) (.cons (.fn .nil (.nil)) (.nil))))) (.inl ⟨rfl, rfl⟩) (fun t' ht' => ?_)
   subst ht'
   refine evY_sound (f := 1) ?_; simp [-splice, f1, f42, b_b1, ld_36_0_22]
   refine Stk.gen (fun t H n => t 1 = .own b1 0 ∧ t 46 = .sc (.bool x7) ∧ H b1 = some (.cells (c36 a0) 36) ∧ b1 < n) (by and_intros <;> first | assumption | simp [-splice, f1, f42, b_b1, ld_36_0_22]) ?_
   clear f1 f42 b_b1 l_b1
   rintro t H n ⟨f1, f46, b_b1, l_b1⟩
   obtain ⟨K3, hK3, h⟩ := jnd h
   refine Stk.jo 4 (fun t H n => ∃ v8 : Bool, K3 v8 = some r ∧ t 1 = .own b1 0 ∧ t 50 = .sc (.bool v8) ∧ H b1 = some (.cells (c36 a0) 36) ∧ b1 < n) (fun J3 hJ3 => ?_) ?_
   · rcases Bool.eq_false_or_eq_true x7 with hb3 | hb3
     · rw [hb3] at f46
       replace h := cT hb3 h
       obtain ⟨x9, hx9, h⟩ := bnd h
       refine evY_sound (f := 2) ?_; simp [-splice, f1, f46, b_b1, ld_36_1_23]
       refine Stk.cv (g := 39) (args := [.ssl (encs c77 a0.Funs) a0.Funs.length false, .sc (.int .i64 0), .sc (.int .i64 48), .fn (.func 40) [] []]) (args' := [.ssl (encs c77 a0.Funs) a0.Funs.length false, .sc (.int .i64 0), .sc (.int .i64 48), .fn (.func 40) [] []]) (v := .sc (.bool x9)) [] (ok_ast_every_api_Fun F _ _ _ _ 40 [] [] (by and_intros <;> first | assumption | simp [freeL, free]) (fun y0 r h => ok_ast_fitFun F y0 r h) _ hx9) (by simp [-splice, f1, f46, b_b1, ld_36_1_23]) rfl rfl (by simp [-splice, f1, f46, b_b1, ld_36_1_23]) (.cons (.free (freeL_encs fr77 _)) (.cons (.free (rfl)) (.cons (.free (rfl)) (.cons (.fn .nil (.nil)) (.nil))))) (.inl ⟨rfl, rfl⟩) (fun t' ht' => ?_)
       subst ht'
       refine evY_sound (f := 2) ?_; simp [-splice, f1, f46, b_b1, ld_36_1_23]
       exact Stk.ln 0 (by decide) (hJ3 _ _ _ ⟨x9, h, by and_intros <;> first | assumption | simp [-splice, f1, f46, b_b1, ld_36_1_23]⟩)
     · rw [hb3] at f46
       replace h := cF hb3 h
       refine evY_sound (f := 5) ?_; simp [-splice, f1, f46, b_b1]
       exact Stk.ln 0 (by decide) (hJ3 _ _ _ ⟨false, h, by and_intros <;> first | assumption | simp [-splice, f1, f46, b_b1]⟩)
   clear h f1 f46 b_b1 l_b1
   rintro t H n ⟨v8, h, f1, f50, b_b1, l_b1⟩
   subst hK3
   refine evY_sound (f := 1) ?_; simp [-splice, f1, f50, b_b1]
   refine Stk.gen (fun t H n => t 1 = .own b1 0 ∧ t 51 = .sc (.bool v8) ∧ H b1 = some (.cells (c36 a0) 36) ∧ b1 < n) (by and_intros <;> first | assumption | simp [-splice, f1, f50, b_b1]) ?_
   clear f1 f50 b_b1 l_b1
   rintro t H n ⟨f1, f51, b_b1, l_b1⟩
   obtain ⟨K4, hK4, h⟩ := jnd h
   refine Stk.jo 4 (fun t H n => ∃ v10 : Bool, K4 v10 = some r ∧ t 55 = .sc (.bool v10)) (fun J4 hJ4 => ?_) ?_
   · rcases Bool.eq_false_or_eq_true v8 with hb4 | hb4
     · rw [hb4] at f51
       replace h := cT hb4 h
       obtain ⟨x11, hx11, h⟩ := bnd h
       refine evY_sound (f := 2) ?_; simp [-splice, f1, f51, b_b1, ld_36_16_34]
       refine Stk.cv (g := 41) (args := [.ssl (encs c83 a0.Hands) a0.Hands.length false, .sc (.int .i64 0), .sc (.int .i64 16), .fn (.func 42) [] []]) (args' := [.ssl (encs c83 a0.Hands) a0.Hands.length false, .sc (.int .i64 0), .sc (.int .i64 16), .fn (.func 42) [] []]) (v := .sc (.bool x11)) [] (ok_ast_every_api_Hand F _ _ _ _ 42 [] [] (by and_intros <;> first | assumption | simp [freeL, free]) (fun y0 r h => ok_ast_fitHand F y0 r h) _ hx11) (by simp [-splice, f1, f51, b_b1, ld_36_16_34]) rfl rfl (by simp [-splice, f1, f51, b_b1, ld_36_16_34]) (.cons (.free (freeL_encs fr83 _)) (.cons (.free (rfl)) (.cons (.free (rfl)) (.cons (.fn .nil (.nil)) (.nil))))) (.inl ⟨rfl, rfl⟩) (fun t' ht' => ?_)
       subst ht'
       refine evY_sound (f := 2) ?_; simp [-splice, f1, f51, b_b1, ld_36_16_34]
       exact Stk.ln 0 (by decide) (hJ4 _ _ _ ⟨x11, h, by simp [-splice, f1, f51, b_b1, ld_36_16_34]⟩)
     · rw [hb4] at f51
       replace h := cF hb4 h
       refine evY_sound (f := 5) ?_; simp [-splice, f1, f51, b_b1]
       exact Stk.ln 0 (by decide) (hJ4 _ _ _ ⟨false, h, by simp [-splice, f1, f51, b_b1]⟩)
   clear h f1 f51 b_b1 l_b1
   rintro t H n ⟨v10, h, f55⟩
   subst hK4
   refine evY_sound (f := 3) ?_; simp [-splice, f55]
   have hq := Option.some.inj h; subst hq
   exact (hr _ _ _ (.sc (.bool v10)) ([]) (by simp [-splice, f55]) (.inr (.inr (.free (rfl))))).1
end Go.Proofs.YtappiofmkoelnaaGreatDoor.M
end
