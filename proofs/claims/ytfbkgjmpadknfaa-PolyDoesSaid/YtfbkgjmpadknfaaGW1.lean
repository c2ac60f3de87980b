/-
  The functions come to them.
-/
import Derived.Test.YtfbkgjmpadknfaaGM
import Derived.Test.YtfbkgjmpadknfaaGW0
namespace Go.Proofs.Ytfbkgjmpadknfaa.M
open Go.Proofs.YtfbkgjmpadknfaaW.Ah Go.Proofs.Ytfbkgjmpadknfaa
set_option linter.unusedVariables false
set_option linter.unusedSimpArgs false
set_option maxRecDepth 8000
attribute [local simp] T.t2 T.t3 T.t4 T.t5 T.t23 T.t36 T.t37 T.t50 T.t95 T.t97 T.t112 List.range List.range.loop
attribute [-simp] appendAV fillAV
theorem ok_poly_compare (F : Nat) (a0 : (Arr 12 Int)) (a1 : (Arr 12 Int)) (r : Int) (h : poly_compare F a0 a1 = some r) : RunF Try.prog T.T 75 [.agg (c112 a0), .agg (c112 a1)] (.sc (.int .i64 r)) := by
  rw [poly_compare] at h
  refine RunF.z Try.func75 rfl rfl rfl rfl rfl (fun C hr => ?_)
  refine Stk.gen (fun t H n => t 0 = .agg (c112 a0) ∧ t 1 = .agg (c112 a1)) ⟨by simp, by simp⟩ ?_
  rintro t H n ⟨f0, f1⟩
  refine Stk.sq ?_
  refine Stk.rg ?_
  refine Stk.om (mop_box T.t112 (cs := c112 a0) (by show partOk (t 0) = true; rw [f0]; rfl) (by show cellsOf (t 0) = _; rw [f0]; rfl)) (by simp [f0, f1]) rfl (fun t' ht' => ?_)
  refine Stk.gen (fun t H n => ∃ b1, t 1 = .agg (c112 a1) ∧ t 2 = .own b1 0 ∧ H b1 = some (.cells (c112 a0) 112) ∧ b1 < n) ⟨n, by simp [ht', f1], by simp [ht'], upd_same _ _ _, Nat.lt_succ_self _⟩ ?_
  clear f0 f1 ht' t'
  rintro t H n ⟨b1, f1, f2, b_b1, l_b1⟩
  refine Stk.om (mop_box T.t112 (cs := c112 a1) (by show partOk (t 1) = true; rw [f1]; rfl) (by show cellsOf (t 1) = _; rw [f1]; rfl)) (by simp [f1, f2]) rfl (fun t' ht' => ?_)
  refine Stk.gen (fun t H n => ∃ b2, t 2 = .own b1 0 ∧ t 3 = .own b2 0 ∧ H b1 = some (.cells (c112 a0) 112) ∧ b1 < n ∧ H b2 = some (.cells (c112 a1) 112) ∧ b2 < n ∧ b1 ≠ b2) ⟨n, by simp [ht', f2], by simp [ht'], (upd_ne _ _ (Nat.ne_of_lt l_b1)).trans b_b1, Nat.lt_succ_of_lt l_b1, upd_same _ _ _, Nat.lt_succ_self _, Nat.ne_of_lt l_b1⟩ ?_
  clear f1 f2 b_b1 l_b1 ht' t'
  rintro t H n ⟨b2, f2, f3, b_b1, l_b1, b_b2, l_b2, d_b1_b2⟩
  refine Stk.run 1 (fun t H n => t 2 = .own b1 0 ∧ t 3 = .own b2 0 ∧ H b1 = some (.cells (c112 a0) 112) ∧ b1 < n ∧ H b2 = some (.cells (c112 a1) 112) ∧ b2 < n ∧ b1 ≠ b2) (fun J hJ => ?_) ?_
  · simp [-splice, f2, f3, b_b1, b_b2]
    exact hJ _ _ _ ⟨by simp [f2], by simp [f3], b_b1, l_b1, b_b2, l_b2, d_b1_b2⟩
  clear f2 f3 b_b1 l_b1 b_b2 l_b2 d_b1_b2
  rintro t H n ⟨f2, f3, b_b1, l_b1, b_b2, l_b2, d_b1_b2⟩
  refine Stk.on ?_
  refine Stk.sq ?_
  obtain ⟨n0, hn0⟩ : ∃ m, m = n := ⟨n, rfl⟩
  have ln0 : n0 ≤ n := Nat.le_of_eq hn0
  refine Stk.rgD [.rd [], .rd [], .rd [b1, b2], .rd []] none (by kernel_rfl) (by rfl) rfl (by simp [below, hn0, l_b1, hn0, l_b2]) rfl ?_
  refine Stk.runD 2 (fun t H n => t 5 = .osl b1 0 12 (some 12) ∧ t 6 = .osl b2 0 12 (some 12) ∧ H b1 = some (.cells (c112 a0) 112) ∧ b1 < n ∧ H b2 = some (.cells (c112 a1) 112) ∧ b2 < n ∧ b1 ≠ b2 ∧ n0 ≤ n) (fun J hJ => ?_) ?_
  · simp [-splice, f2, f3, b_b1, b_b2]
    exact hJ _ _ _ ⟨by simp [-splice, f2, f3, b_b1, b_b2], by simp [-splice, f2, f3, b_b1, b_b2], b_b1, l_b1, b_b2, l_b2, d_b1_b2, ln0⟩
  clear f2 f3 b_b1 l_b1 b_b2 l_b2 d_b1_b2 ln0
  rintro t H n ⟨f5, f6, b_b1, l_b1, b_b2, l_b2, d_b1_b2, ln0⟩
  obtain ⟨x3, hx3, h⟩ := bnd h
  refine Stk.cvD (g := 91) (args := [.osl b1 0 12 (some 12), .osl b2 0 12 (some 12)]) (args' := [.ssl (encs c5 a0.1) a0.1.length false, .ssl (encs c5 a1.1) a1.1.length false]) (v := .sc (.int .i64 x3)) ([b1] ++ [b2]) (ok_slices_Compare_uint8_uint8 F _ _ _ hx3) rfl (by simp) rfl (by simp [f5, f6]) rfl rfl (by simp [f5, f6]) (.cons (view_arr fr5 b_b1 (by simp) rfl) (.cons (view_arr fr5 b_b2 (by simp) rfl) (.nil))) (.inr rfl) (fun t' ht' => ?_)
  refine Stk.gen (fun t H n => t 7 = .sc (.int .i64 x3) ∧ n0 ≤ n) ⟨by simp [ht'], ln0⟩ ?_
  clear f5 f6 b_b1 l_b1 b_b2 l_b2 d_b1_b2 ln0 ht' t'
  rintro t H n ⟨f7, ln0⟩
  refine Stk.runD 1 (fun t H n => t 4 = .sc (.int .i64 x3) ∧ n0 ≤ n) (fun J hJ => ?_) ?_
  · simp [-splice, f7]
    exact hJ _ _ _ ⟨by simp [-splice, f7], ln0⟩
  clear f7 ln0
  rintro t H n ⟨f4, ln0⟩
  refine Stk.onD ?_
  refine Stk.rt ?_
  have hq := Option.some.inj h; subst hq
  exact (hr _ _ _ (.sc (.int .i64 x3)) ([]) (by simp [f4]) (.inr (.inr (.free (rfl))))).1
theorem ok_poly_order (F : Nat) (a0 : api_Term) (a1 : api_Term) (r : Int) (h : poly_order F a0 a1 = some r) : RunF Try.prog T.T 63 [.agg (c97 a0), .agg (c97 a1)] (.sc (.int .i64 r)) := by
  rw [poly_order] at h
  refine RunF.z Try.func63 rfl rfl rfl rfl rfl (fun C hr => ?_)
  refine Stk.gen (fun t H n => t 0 = .agg (c97 a0) ∧ t 1 = .agg (c97 a1)) ⟨by simp, by simp⟩ ?_
  rintro t H n ⟨f0, f1⟩
  refine Stk.sq ?_
  refine Stk.rg ?_
  refine Stk.om (mop_box T.t97 (cs := c97 a0) (by show partOk (t 0) = true; rw [f0]; rfl) (by show cellsOf (t 0) = _; rw [f0]; rfl)) (by simp [f0, f1]) rfl (fun t' ht' => ?_)
  refine Stk.gen (fun t H n => ∃ b1, t 1 = .agg (c97 a1) ∧ t 2 = .own b1 0 ∧ H b1 = some (.cells (c97 a0) 97) ∧ b1 < n) ⟨n, by simp [ht', f1], by simp [ht'], upd_same _ _ _, Nat.lt_succ_self _⟩ ?_
  clear f0 f1 ht' t'
  rintro t H n ⟨b1, f1, f2, b_b1, l_b1⟩
  refine Stk.om (mop_box T.t97 (cs := c97 a1) (by show partOk (t 1) = true; rw [f1]; rfl) (by show cellsOf (t 1) = _; rw [f1]; rfl)) (by simp [f1, f2]) rfl (fun t' ht' => ?_)
  refine Stk.gen (fun t H n => ∃ b2, t 2 = .own b1 0 ∧ t 3 = .own b2 0 ∧ H b1 = some (.cells (c97 a0) 97) ∧ b1 < n ∧ H b2 = some (.cells (c97 a1) 97) ∧ b2 < n ∧ b1 ≠ b2) ⟨n, by simp [ht', f2], by simp [ht'], (upd_ne _ _ (Nat.ne_of_lt l_b1)).trans b_b1, Nat.lt_succ_of_lt l_b1, upd_same _ _ _, Nat.lt_succ_self _, Nat.ne_of_lt l_b1⟩ ?_
  clear f1 f2 b_b1 l_b1 ht' t'
  rintro t H n ⟨b2, f2, f3, b_b1, l_b1, b_b2, l_b2, d_b1_b2⟩
  refine Stk.run 1 (fun t H n => t 2 = .own b1 0 ∧ t 3 = .own b2 0 ∧ H b1 = some (.cells (c97 a0) 97) ∧ b1 < n ∧ H b2 = some (.cells (c97 a1) 97) ∧ b2 < n ∧ b1 ≠ b2) (fun J hJ => ?_) ?_
  · simp [-splice, f2, f3, b_b1, b_b2]
    exact hJ _ _ _ ⟨by simp [f2], by simp [f3], b_b1, l_b1, b_b2, l_b2, d_b1_b2⟩
  clear f2 f3 b_b1 l_b1 b_b2 l_b2 d_b1_b2
  rintro t H n ⟨f2, f3, b_b1, l_b1, b_b2, l_b2, d_b1_b2⟩
  refine Stk.on ?_
  refine Stk.sq ?_
  refine Stk.rg ?_
  refine Stk.run 4 (fun t H n => t 6 = .agg (c95 a0.Exps) ∧ t 8 = .agg (c95 a1.Exps)) (fun J hJ => ?_) ?_
  · simp [-splice, f2, f3, b_b1, b_b2, ld_97_0_95]
    exact hJ _ _ _ ⟨by simp [-splice, f2, f3, b_b1, b_b2, ld_97_0_95], by simp [-splice, f2, f3, b_b1, b_b2, ld_97_0_95]⟩
  clear f2 f3 b_b1 l_b1 b_b2 l_b2 d_b1_b2
  rintro t H n ⟨f6, f8⟩
  obtain ⟨x3, hx3, h⟩ := bnd h
  refine Stk.cv (g := 75) (args := [.agg (c95 a0.Exps), .agg (c95 a1.Exps)]) (args' := [.agg (c95 a0.Exps), .agg (c95 a1.Exps)]) (v := .sc (.int .i64 x3)) [] (ok_poly_compare F _ _ _ hx3) (by simp [f6, f8]) rfl rfl (by simp [f6, f8]) (.cons (.free (fr95 _)) (.cons (.free (fr95 _)) (.nil))) (.inl ⟨rfl, rfl⟩) (fun t' ht' => ?_)
  refine Stk.gen (fun t H n => t 9 = .sc (.int .i64 x3)) (by simp [ht']) ?_
  clear f6 f8 ht' t'
  rintro t H n f9
  refine Stk.run 1 (fun t H n => t 4 = .sc (.int .i64 x3)) (fun J hJ => ?_) ?_
  · simp [-splice, f9]
    exact hJ _ _ _ (by simp [-splice, f9])
  clear f9
  rintro t H n f4
  refine Stk.on ?_
  refine Stk.rt ?_
  have hq := Option.some.inj h; subst hq
  exact (hr _ _ _ (.sc (.int .i64 x3)) ([]) (by simp [f4]) (.inr (.inr (.free (rfl))))).1
theorem ok_poly_added (F : Nat) (a0 : api_Term) (a1 : api_Term) (r : api_Term) (h : poly_added F a0 a1 = some r) : RunF Try.prog T.T 64 [.agg (c97 a0), .agg (c97 a1)] (.agg (c97 r)) := by
  rw [poly_added] at h
  refine RunF.z Try.func64 rfl rfl rfl rfl rfl (fun C hr => ?_)
  refine Stk.gen (fun t H n => t 0 = .agg (c97 a0) ∧ t 1 = .agg (c97 a1)) ⟨by simp, by simp⟩ ?_
  rintro t H n ⟨f0, f1⟩
  refine Stk.sq ?_
  refine Stk.rg ?_
  refine Stk.om (mop_box T.t97 (cs := c97 a0) (by show partOk (t 0) = true; rw [f0]; rfl) (by show cellsOf (t 0) = _; rw [f0]; rfl)) (by simp [f0, f1]) rfl (fun t' ht' => ?_)
  refine Stk.gen (fun t H n => ∃ b1, t 1 = .agg (c97 a1) ∧ t 2 = .own b1 0 ∧ H b1 = some (.cells (c97 a0) 97) ∧ b1 < n) ⟨n, by simp [ht', f1], by simp [ht'], upd_same _ _ _, Nat.lt_succ_self _⟩ ?_
  clear f0 f1 ht' t'
  rintro t H n ⟨b1, f1, f2, b_b1, l_b1⟩
  refine Stk.om (mop_box T.t97 (cs := c97 a1) (by show partOk (t 1) = true; rw [f1]; rfl) (by show cellsOf (t 1) = _; rw [f1]; rfl)) (by simp [f1, f2]) rfl (fun t' ht' => ?_)
  refine Stk.gen (fun t H n => ∃ b2, t 2 = .own b1 0 ∧ t 3 = .own b2 0 ∧ H b1 = some (.cells (c97 a0) 97) ∧ b1 < n ∧ H b2 = some (.cells (c97 a1) 97) ∧ b2 < n ∧ b1 ≠ b2) ⟨n, by simp [ht', f2], by simp [ht'], (upd_ne _ _ (Nat.ne_of_lt l_b1)).trans b_b1, Nat.lt_succ_of_lt l_b1, upd_same _ _ _, Nat.lt_succ_self _, Nat.ne_of_lt l_b1⟩ ?_
  clear f1 f2 b_b1 l_b1 ht' t'
  rintro t H n ⟨b2, f2, f3, b_b1, l_b1, b_b2, l_b2, d_b1_b2⟩
  refine Stk.om (mop_alloc T.t97 (cs := c97 (api_Term.mk (Arr.rep 12 0) 0)) rfl) (by simp [f2, f3]) rfl (fun t' ht' => ?_)
  refine Stk.gen (fun t H n => ∃ b3, t 2 = .own b1 0 ∧ t 3 = .own b2 0 ∧ t 4 = .own b3 0 ∧ H b1 = some (.cells (c97 a0) 97) ∧ b1 < n ∧ H b2 = some (.cells (c97 a1) 97) ∧ b2 < n ∧ H b3 = some (.cells (c97 (api_Term.mk (Arr.rep 12 0) 0)) 97) ∧ b3 < n ∧ b1 ≠ b2 ∧ b1 ≠ b3 ∧ b2 ≠ b3) ⟨n, by simp [ht', f2], by simp [ht', f3], by simp [ht'], (upd_ne _ _ (Nat.ne_of_lt l_b1)).trans b_b1, Nat.lt_succ_of_lt l_b1, (upd_ne _ _ (Nat.ne_of_lt l_b2)).trans b_b2, Nat.lt_succ_of_lt l_b2, upd_same _ _ _, Nat.lt_succ_self _, d_b1_b2, Nat.ne_of_lt l_b1, Nat.ne_of_lt l_b2⟩ ?_
  clear f2 f3 b_b1 l_b1 b_b2 l_b2 d_b1_b2 ht' t'
  rintro t H n ⟨b3, f2, f3, f4, b_b1, l_b1, b_b2, l_b2, b_b3, l_b3, d_b1_b2, d_b1_b3, d_b2_b3⟩
  refine Stk.on ?_
  refine Stk.sq ?_
  refine Stk.rg ?_
  refine Stk.run 6 (fun t H n => t 2 = .own b1 0 ∧ t 4 = .own b3 0 ∧ t 9 = .sc (.int .i64 (IntKind.i64.wrap (a0.Coef + a1.Coef))) ∧ t 10 = .own b1 12 ∧ H b1 = some (.cells (c97 a0) 97) ∧ b1 < n ∧ H b3 = some (.cells (c97 (api_Term.mk (Arr.rep 12 0) 0)) 97) ∧ b3 < n ∧ b1 ≠ b3) (fun J hJ => ?_) ?_
  · simp [-splice, f2, f3, f4, b_b1, b_b2, b_b3, ld_97_12_2]
    exact hJ _ _ _ ⟨by simp [f2], by simp [f4], by simp [-splice, f2, f3, f4, b_b1, b_b2, b_b3, ld_97_12_2], by simp [-splice, f2, f3, f4, b_b1, b_b2, b_b3, ld_97_12_2], b_b1, l_b1, b_b3, l_b3, d_b1_b3⟩
  clear f2 f3 f4 b_b1 l_b1 b_b2 l_b2 b_b3 l_b3 d_b1_b2 d_b1_b3 d_b2_b3
  rintro t H n ⟨f2, f4, f9, f10, b_b1, l_b1, b_b3, l_b3, d_b1_b3⟩
  refine Stk.om (mop_store (z := 1) rfl f10 b_b1 f9 rfl (by rw [len97]; decide) rfl (st_97_12_2 _ _)) (by simp [f2, f4, f9, f10]) rfl (fun t' ht' => ?_)
  refine Stk.gen (fun t H n => t 2 = .own b1 0 ∧ t 4 = .own b3 0 ∧ H b1 = some (.cells (c97 ({ a0 with Coef := (IntKind.i64.wrap (a0.Coef + a1.Coef)) })) 97) ∧ b1 < n ∧ H b3 = some (.cells (c97 (api_Term.mk (Arr.rep 12 0) 0)) 97) ∧ b3 < n ∧ b1 ≠ b3) ⟨by simp [ht', f2], by simp [ht', f4], upd_same _ _ _, l_b1, (upd_ne _ _ (Ne.symm d_b1_b3)).trans b_b3, l_b3, d_b1_b3⟩ ?_
  clear f2 f4 f9 f10 b_b1 l_b1 b_b3 l_b3 d_b1_b3 ht' t'
  rintro t H n ⟨f2, f4, b_b1, l_b1, b_b3, l_b3, d_b1_b3⟩
  refine Stk.on ?_
  refine Stk.sq ?_
  refine Stk.rg ?_
  refine Stk.run 1 (fun t H n => t 4 = .own b3 0 ∧ t 11 = .agg (c97 ({ a0 with Coef := (IntKind.i64.wrap (a0.Coef + a1.Coef)) })) ∧ H b3 = some (.cells (c97 (api_Term.mk (Arr.rep 12 0) 0)) 97) ∧ b3 < n) (fun J hJ => ?_) ?_
  · simp [-splice, f2, f4, b_b1, b_b3, ld_97_0_97]
    exact hJ _ _ _ ⟨by simp [f4], by simp [-splice, f2, f4, b_b1, b_b3, ld_97_0_97], b_b3, l_b3⟩
  clear f2 f4 b_b1 l_b1 b_b3 l_b3 d_b1_b3
  rintro t H n ⟨f4, f11, b_b3, l_b3⟩
  refine Stk.om (mop_store (z := 13) rfl f4 b_b3 f11 (len97 _) (by rw [len97]; decide) (ok97 _) (st_97_0_97 _ _)) (by simp [f4, f11]) rfl (fun t' ht' => ?_)
  refine Stk.gen (fun t H n => t 4 = .own b3 0 ∧ H b3 = some (.cells (c97 ({ a0 with Coef := (IntKind.i64.wrap (a0.Coef + a1.Coef)) })) 97) ∧ b3 < n) ⟨by simp [ht', f4], upd_same _ _ _, l_b3⟩ ?_
  clear f4 f11 b_b3 l_b3 ht' t'
  rintro t H n ⟨f4, b_b3, l_b3⟩
  refine Stk.on ?_
  refine Stk.rt ?_
  have hq := Option.some.inj h; subst hq
  exact (hr _ _ _ (.agg (c97 ({ a0 with Coef := (IntKind.i64.wrap (a0.Coef + a1.Coef)) }))) ([]) (by simp [f4, b_b3, ld_97_0_97]) (.inr (.inr (.free (fr97 _))))).1
theorem ok_slices_IndexFunc_uint8_uint8 (F : Nat) (a0 : (List Int)) (φ1 : Int → Option Bool) (g1 : FuncId) (first1 caps1 : List AV) (fr1 : freeL first1 = true ∧ freeL caps1 = true) (hφ1 : ∀ y0 r, φ1 y0 = some r → RunF Try.prog T.T g1 (first1 ++ [.sc (.int .u8 y0)] ++ caps1) (.sc (.bool r))) (r : Int) (h : slices_IndexFunc_uint8_uint8 F a0 φ1 = some r) : RunF Try.prog T.T 101 [.ssl (encs c5 a0) a0.length false, .fn (.func g1) first1 caps1] (.sc (.int .i64 r)) := by
  rw [slices_IndexFunc_uint8_uint8] at h
  refine RunF.z Try.func101 rfl rfl rfl rfl rfl (fun C hr => ?_)
  refine Stk.gen (fun t H n => t 0 = .ssl (encs c5 a0) a0.length false ∧ t 1 = .fn (.func g1) first1 caps1) ⟨by simp, by simp⟩ ?_
  rintro t H n ⟨f0, f1⟩
  refine Stk.sq ?_
  refine Stk.rg ?_
  refine Stk.run 1 (fun t H n => t 0 = .ssl (encs c5 a0) a0.length false ∧ t 1 = .fn (.func g1) first1 caps1) (fun J hJ => ?_) ?_
  · simp [-splice, f0, f1]
    exact hJ _ _ _ ⟨by simp [f0], by simp [f1]⟩
  clear f0 f1
  rintro t H n ⟨f0, f1⟩
  refine Stk.on ?_
  refine Stk.sq ?_
  refine Stk.sq ?_
  refine Stk.rg ?_
  refine Stk.run 3 (fun t H n => t 0 = .ssl (encs c5 a0) a0.length false ∧ t 1 = .fn (.func g1) first1 caps1 ∧ t 7 = .sc (.int .i64 (a0.length : Int)) ∧ t 8 = .sc (.int .i64 0)) (fun J hJ => ?_) ?_
  · simp [-splice, f0, f1]
    exact hJ _ _ _ ⟨by simp [f0], by simp [f1], by simp [-splice, f0, f1], by simp [-splice, f0, f1]⟩
  clear f0 f1
  rintro t H n ⟨f0, f1, f7, f8⟩
  refine Stk.on ?_
  refine Stk.bk ?_
  refine Stk.lo (fun μ t H n => ∃ v1 : Int, slices_IndexFunc_uint8_uint8_L0 F a0 φ1 μ v1 = some r ∧ t 0 = .ssl (encs c5 a0) a0.length false ∧ t 1 = .fn (.func g1) first1 caps1 ∧ t 7 = .sc (.int .i64 (a0.length : Int)) ∧ t 8 = .sc (.int .i64 v1)) F ⟨0, h, f0, f1, f7, f8⟩ ?_
  clear h f0 f1 f7 f8
  rintro J1 hJ1 μ t H n ⟨v1, h, f0, f1, f7, f8⟩
  cases μ with
  | zero => exact absurd h (by simp [slices_IndexFunc_uint8_uint8_L0])
  | succ μ =>
  rw [slices_IndexFunc_uint8_uint8_L0] at h
  refine Stk.sq ?_
  refine Stk.rg ?_
  refine Stk.run 1 (fun t H n => t 0 = .ssl (encs c5 a0) a0.length false ∧ t 1 = .fn (.func g1) first1 caps1 ∧ t 7 = .sc (.int .i64 (a0.length : Int)) ∧ t 8 = .sc (.int .i64 v1) ∧ t 9 = .sc (.bool (decide (v1 < (a0.length : Int))))) (fun J hJ => ?_) ?_
  · simp [-splice, f0, f1, f7, f8]
    exact hJ _ _ _ ⟨by simp [f0], by simp [f1], by simp [f7], by simp [f8], by simp [-splice, f0, f1, f7, f8]⟩
  clear f0 f1 f7 f8
  rintro t H n ⟨f0, f1, f7, f8, f9⟩
  refine Stk.on ?_
  refine Stk.sq ?_
  refine Stk.cond (decide (v1 < (a0.length : Int))) (by exact f9) (fun hb3 => ?_) (fun hb3 => ?_)
  · have h := cT hb3 h
    refine Stk.sk ?_
    refine Stk.sq ?_
    refine Stk.bk ?_
    refine Stk.sq ?_
    refine Stk.rg ?_
    refine Stk.run 2 (fun t H n => t 0 = .ssl (encs c5 a0) a0.length false ∧ t 1 = .fn (.func g1) first1 caps1 ∧ t 5 = .sc (.int .i64 v1) ∧ t 7 = .sc (.int .i64 (a0.length : Int)) ∧ t 8 = .sc (.int .i64 v1)) (fun J hJ => ?_) ?_
    · simp [-splice, f0, f1, f7, f8, f9]
      exact hJ _ _ _ ⟨by simp [f0], by simp [f1], by simp [-splice, f0, f1, f7, f8, f9], by simp [f7], by simp [f8]⟩
    clear f0 f1 f7 f8 f9
    rintro t H n ⟨f0, f1, f5, f7, f8⟩
    refine Stk.on ?_
    refine Stk.sq ?_
    refine Stk.rg ?_
    obtain ⟨x4, hx4, h⟩ := bnd h
    obtain ⟨i0x4, i1x4, i2x4, _⟩ := idx_ok hx4
    have ex4_0_5 : partOf T.T 5 (encs c5 a0) (v1.toNat) = some (.sc (.int .u8 x4)) := by
        have e0 := part_elem0 (e := c5) (z := 1) (T := T.T) (ty := 5) T.t5 (by decide) (by decide) hx4 0 (by decide)
        (try simp only [Nat.mul_one, Nat.add_zero] at e0)
        exact e0.trans rfl
    refine Stk.run 5 (fun t H n => t 0 = .ssl (encs c5 a0) a0.length false ∧ t 1 = .fn (.func g1) first1 caps1 ∧ t 5 = .sc (.int .i64 v1) ∧ t 7 = .sc (.int .i64 (a0.length : Int)) ∧ t 8 = .sc (.int .i64 v1) ∧ t 11 = .fn (.func g1) first1 caps1 ∧ t 15 = .sc (.int .u8 x4)) (fun J hJ => ?_) ?_
    · simp [-splice, f0, f1, f5, f7, f8, i0x4, i1x4, pd5, ex4_0_5]
      exact hJ _ _ _ ⟨by simp [f0], by simp [f1], by simp [f5], by simp [f7], by simp [f8], by simp [-splice, f0, f1, f5, f7, f8, i0x4, i1x4, pd5, ex4_0_5], by simp [-splice, f0, f1, f5, f7, f8, i0x4, i1x4, pd5, ex4_0_5]⟩
    clear f0 f1 f5 f7 f8
    rintro t H n ⟨f0, f1, f5, f7, f8, f11, f15⟩
    obtain ⟨x5, hx5, h⟩ := bnd h
    refine Stk.cv (g := g1) (args := first1 ++ [.sc (.int .u8 x4)] ++ caps1) (args' := first1 ++ [.sc (.int .u8 x4)] ++ caps1) (v := .sc (.bool x5)) [] (hφ1 _ _ hx5) (by simp [f0, f1, f5, f7, f8, f11, f15]) rfl f11 (by simp [f0, f1, f5, f7, f8, f11, f15]) (viewL_mid (x := [.sc (.int .u8 x4)]) (y := [.sc (.int .u8 x4)]) fr1.1 fr1.2 (.cons (.free (rfl)) (.nil))) (.inl ⟨rfl, rfl⟩) (fun t' ht' => ?_)
    refine Stk.gen (fun t H n => t 0 = .ssl (encs c5 a0) a0.length false ∧ t 1 = .fn (.func g1) first1 caps1 ∧ t 5 = .sc (.int .i64 v1) ∧ t 7 = .sc (.int .i64 (a0.length : Int)) ∧ t 8 = .sc (.int .i64 v1) ∧ t 16 = .sc (.bool x5)) ⟨by simp [ht', f0], by simp [ht', f1], by simp [ht', f5], by simp [ht', f7], by simp [ht', f8], by simp [ht']⟩ ?_
    clear f0 f1 f5 f7 f8 f11 f15 ht' t'
    rintro t H n ⟨f0, f1, f5, f7, f8, f16⟩
    refine Stk.on ?_
    refine Stk.cond x5 (by exact f16) (fun hb6 => ?_) (fun hb6 => ?_)
    · have h := cT hb6 h
      refine Stk.sq ?_
      refine Stk.rg ?_
      refine Stk.run 2 (fun t H n => t 4 = .sc (.int .i64 v1)) (fun J hJ => ?_) ?_
      · simp [-splice, f0, f1, f5, f7, f8, f16]
        exact hJ _ _ _ (by simp [-splice, f0, f1, f5, f7, f8, f16])
      clear f0 f1 f5 f7 f8 f16
      rintro t H n f4
      refine Stk.on ?_
      refine Stk.rt ?_
      have hq := Option.some.inj h; subst hq
      exact (hr _ _ _ (.sc (.int .i64 v1)) ([]) (by simp [f4]) (.inr (.inr (.free (rfl))))).1
    · have h := cF hb6 h
      refine Stk.sk ?_
      refine Stk.bn ?_
      refine Stk.rg ?_
      refine Stk.run 2 (fun t H n => t 0 = .ssl (encs c5 a0) a0.length false ∧ t 1 = .fn (.func g1) first1 caps1 ∧ t 7 = .sc (.int .i64 (a0.length : Int)) ∧ t 8 = .sc (.int .i64 (IntKind.i64.wrap (v1 + 1)))) (fun J hJ => ?_) ?_
      · simp [-splice, f0, f1, f5, f7, f8, f16]
        exact hJ _ _ _ ⟨by simp [f0], by simp [f1], by simp [f7], by simp [-splice, f0, f1, f5, f7, f8, f16]⟩
      clear f0 f1 f5 f7 f8 f16
      rintro t H n ⟨f0, f1, f7, f8⟩
      refine Stk.on ?_
      exact Stk.ln μ (Nat.lt_succ_self _) (hJ1 _ _ _ _ ⟨(IntKind.i64.wrap (v1 + 1)), h, f0, f1, f7, f8⟩)
  · have h := cF hb3 h
    refine Stk.ex rfl ?_
    refine Stk.sq ?_
    refine Stk.rg ?_
    refine Stk.run 1 (fun t H n => t 4 = .sc (.int .i64 (-1))) (fun J hJ => ?_) ?_
    · simp [-splice, f0, f1, f7, f8, f9]
      exact hJ _ _ _ (by simp [-splice, f0, f1, f7, f8, f9])
    clear f0 f1 f7 f8 f9
    rintro t H n f4
    refine Stk.on ?_
    refine Stk.rt ?_
    have hq := Option.some.inj h; subst hq
    exact (hr _ _ _ (.sc (.int .i64 (-1))) ([]) (by simp [f4]) (.inr (.inr (.free (rfl))))).1
theorem ok_slices_ContainsFunc_uint8_uint8 (F : Nat) (a0 : (List Int)) (φ1 : Int → Option Bool) (g1 : FuncId) (first1 caps1 : List AV) (fr1 : freeL first1 = true ∧ freeL caps1 = true) (hφ1 : ∀ y0 r, φ1 y0 = some r → RunF Try.prog T.T g1 (first1 ++ [.sc (.int .u8 y0)] ++ caps1) (.sc (.bool r))) (r : Bool) (h : slices_ContainsFunc_uint8_uint8 F a0 φ1 = some r) : RunF Try.prog T.T 89 [.ssl (encs c5 a0) a0.length false, .fn (.func g1) first1 caps1] (.sc (.bool r)) := by
  rw [slices_ContainsFunc_uint8_uint8] at h
  refine RunF.z Try.func89 rfl rfl rfl rfl rfl (fun C hr => ?_)
  refine Stk.gen (fun t H n => t 0 = .ssl (encs c5 a0) a0.length false ∧ t 1 = .fn (.func g1) first1 caps1) ⟨by simp, by simp⟩ ?_
  rintro t H n ⟨f0, f1⟩
  refine Stk.sq ?_
  refine Stk.rg ?_
  refine Stk.run 1 (fun t H n => t 0 = .ssl (encs c5 a0) a0.length false ∧ t 1 = .fn (.func g1) first1 caps1) (fun J hJ => ?_) ?_
  · simp [-splice, f0, f1]
    exact hJ _ _ _ ⟨by simp [f0], by simp [f1]⟩
  clear f0 f1
  rintro t H n ⟨f0, f1⟩
  refine Stk.on ?_
  refine Stk.sq ?_
  refine Stk.rg ?_
  refine Stk.run 2 (fun t H n => t 5 = .ssl (encs c5 a0) a0.length false ∧ t 6 = .fn (.func g1) first1 caps1) (fun J hJ => ?_) ?_
  · simp [-splice, f0, f1]
    exact hJ _ _ _ ⟨by simp [-splice, f0, f1], by simp [-splice, f0, f1]⟩
  clear f0 f1
  rintro t H n ⟨f5, f6⟩
  obtain ⟨x1, hx1, h⟩ := bnd h
  refine Stk.cv (g := 101) (args := [.ssl (encs c5 a0) a0.length false, .fn (.func g1) first1 caps1]) (args' := [.ssl (encs c5 a0) a0.length false, .fn (.func g1) first1 caps1]) (v := .sc (.int .i64 x1)) [] (ok_slices_IndexFunc_uint8_uint8 F _ _ _ _ _ fr1 hφ1 _ hx1) (by simp [f5, f6]) rfl rfl (by simp [f5, f6]) (.cons (.free (freeL_encs fr5 _)) (.cons (.free (by simp [free, fr1])) (.nil))) (.inl ⟨rfl, rfl⟩) (fun t' ht' => ?_)
  refine Stk.gen (fun t H n => t 7 = .sc (.int .i64 x1)) (by simp [ht']) ?_
  clear f5 f6 ht' t'
  rintro t H n f7
  refine Stk.run 2 (fun t H n => t 4 = .sc (.bool (decide (0 ≤ x1)))) (fun J hJ => ?_) ?_
  · simp [-splice, f7]
    exact hJ _ _ _ (by simp [-splice, f7])
  clear f7
  rintro t H n f4
  refine Stk.on ?_
  refine Stk.rt ?_
  have hq := Option.some.inj h; subst hq
  exact (hr _ _ _ (.sc (.bool (decide (0 ≤ x1)))) ([]) (by simp [f4]) (.inr (.inr (.free (rfl))))).1
theorem ok_poly_powers_fit_1 (F : Nat) (a0 : Int) (r : Bool) (h : poly_powers_fit_1 F a0 = some r) : RunF Try.prog T.T 90 [.sc (.int .u8 a0)] (.sc (.bool r)) := by
  rw [poly_powers_fit_1] at h
  refine RunF.z Try.func90 rfl rfl rfl rfl rfl (fun C hr => ?_)
  refine Stk.gen (fun t H n => t 0 = .sc (.int .u8 a0)) (by simp) ?_
  rintro t H n f0
  refine Stk.sq ?_
  refine Stk.rg ?_
  refine Stk.run 1 (fun t H n => t 0 = .sc (.int .u8 a0)) (fun J hJ => ?_) ?_
  · simp [-splice, f0]
    exact hJ _ _ _ (by simp [f0])
  clear f0
  rintro t H n f0
  refine Stk.on ?_
  refine Stk.sq ?_
  refine Stk.rg ?_
  refine Stk.run 3 (fun t H n => t 2 = .sc (.bool (decide (6 < a0)))) (fun J hJ => ?_) ?_
  · simp [-splice, f0]
    exact hJ _ _ _ (by simp [-splice, f0])
  clear f0
  rintro t H n f2
  refine Stk.on ?_
  refine Stk.rt ?_
  have hq := Option.some.inj h; subst hq
  exact (hr _ _ _ (.sc (.bool (decide (6 < a0)))) ([]) (by simp [f2]) (.inr (.inr (.free (rfl))))).1
theorem ok_poly_powers_fit (F : Nat) (a0 : (Arr 12 Int)) (r : Bool) (h : poly_powers_fit F a0 = some r) : RunF Try.prog T.T 74 [.agg (c112 a0)] (.sc (.bool r)) := by
  rw [poly_powers_fit] at h
  refine RunF.z Try.func74 rfl rfl rfl rfl rfl (fun C hr => ?_)
  refine Stk.gen (fun t H n => t 0 = .agg (c112 a0)) (by simp) ?_
  rintro t H n f0
  refine Stk.sq ?_
  refine Stk.rg ?_
  refine Stk.om (mop_box T.t112 (cs := c112 a0) (by show partOk (t 0) = true; rw [f0]; rfl) (by show cellsOf (t 0) = _; rw [f0]; rfl)) (by simp [f0]) rfl (fun t' ht' => ?_)
  refine Stk.gen (fun t H n => ∃ b1, t 1 = .own b1 0 ∧ H b1 = some (.cells (c112 a0) 112) ∧ b1 < n) ⟨n, by simp [ht'], upd_same _ _ _, Nat.lt_succ_self _⟩ ?_
  clear f0 ht' t'
  rintro t H n ⟨b1, f1, b_b1, l_b1⟩
  refine Stk.run 1 (fun t H n => t 1 = .own b1 0 ∧ H b1 = some (.cells (c112 a0) 112) ∧ b1 < n) (fun J hJ => ?_) ?_
  · simp [-splice, f1, b_b1]
    exact hJ _ _ _ ⟨by simp [f1], b_b1, l_b1⟩
  clear f1 b_b1 l_b1
  rintro t H n ⟨f1, b_b1, l_b1⟩
  refine Stk.on ?_
  refine Stk.sq ?_
  refine Stk.rg ?_
  refine Stk.run 1 (fun t H n => t 3 = .osl b1 0 12 (some 12) ∧ H b1 = some (.cells (c112 a0) 112) ∧ b1 < n) (fun J hJ => ?_) ?_
  · simp [-splice, f1, b_b1]
    exact hJ _ _ _ ⟨by simp [-splice, f1, b_b1], b_b1, l_b1⟩
  clear f1 b_b1 l_b1
  rintro t H n ⟨f3, b_b1, l_b1⟩
  obtain ⟨x2, hx2, h⟩ := bnd h
  refine Stk.cv (g := 89) (args := [.osl b1 0 12 (some 12), .fn (.func 90) [] []]) (args' := [.ssl (encs c5 a0.1) a0.1.length false, .fn (.func 90) [] []]) (v := .sc (.bool x2)) [b1] (ok_slices_ContainsFunc_uint8_uint8 F _ _ 90 [] [] ⟨rfl, by simp [freeL, free]⟩ (fun y0 r h => ok_poly_powers_fit_1 F y0 r h) _ hx2) (by simp [f3]) rfl rfl (by simp [f3]) (.cons (view_arr fr5 b_b1 (by simp) rfl) (.cons (.fn .nil (.nil)) (.nil))) (.inr rfl) (fun t' ht' => ?_)
  refine Stk.gen (fun t H n => t 4 = .sc (.bool x2)) (by simp [ht']) ?_
  clear f3 b_b1 l_b1 ht' t'
  rintro t H n f4
  refine Stk.run 2 (fun t H n => t 2 = .sc (.bool (!x2))) (fun J hJ => ?_) ?_
  · simp [-splice, f4]
    exact hJ _ _ _ (by simp [-splice, f4])
  clear f4
  rintro t H n f2
  refine Stk.on ?_
  refine Stk.rt ?_
  have hq := Option.some.inj h; subst hq
  exact (hr _ _ _ (.sc (.bool (!x2))) ([]) (by simp [f2]) (.inr (.inr (.free (rfl))))).1
theorem ok_poly_Fit (F : Nat) (a0 : (List api_Term)) (r : Bool) (h : poly_Fit F a0 = some r) : RunF Try.prog T.T 38 [.ssl (encs c97 a0) a0.length false] (.sc (.bool r)) := by
  rw [poly_Fit] at h
  refine RunF.z Try.func38 rfl rfl rfl rfl rfl (fun C hr => ?_)
  refine Stk.gen (fun t H n => t 0 = .ssl (encs c97 a0) a0.length false) (by simp) ?_
  rintro t H n f0
  refine Stk.sq ?_
  refine Stk.rg ?_
  refine Stk.run 1 (fun t H n => t 0 = .ssl (encs c97 a0) a0.length false) (fun J hJ => ?_) ?_
  · simp [-splice, f0]
    exact hJ _ _ _ (by simp [f0])
  clear f0
  rintro t H n f0
  refine Stk.on ?_
  refine Stk.sq ?_
  refine Stk.sq ?_
  refine Stk.rg ?_
  refine Stk.run 3 (fun t H n => t 0 = .ssl (encs c97 a0) a0.length false ∧ t 7 = .sc (.bool (decide (64 < (a0.length : Int))))) (fun J hJ => ?_) ?_
  · simp [-splice, f0]
    exact hJ _ _ _ ⟨by simp [f0], by simp [-splice, f0]⟩
  clear f0
  rintro t H n ⟨f0, f7⟩
  refine Stk.on ?_
  refine Stk.cond (decide (64 < (a0.length : Int))) (by exact f7) (fun hb1 => ?_) (fun hb1 => ?_)
  · have h := cT hb1 h
    refine Stk.sq ?_
    refine Stk.rg ?_
    refine Stk.run 1 (fun t H n => t 2 = .sc (.bool false)) (fun J hJ => ?_) ?_
    · simp [-splice, f0, f7]
      exact hJ _ _ _ (by simp [-splice, f0, f7])
    clear f0 f7
    rintro t H n f2
    refine Stk.on ?_
    refine Stk.rt ?_
    have hq := Option.some.inj h; subst hq
    exact (hr _ _ _ (.sc (.bool false)) ([]) (by simp [f2]) (.inr (.inr (.free (rfl))))).1
  · have h := cF hb1 h
    refine Stk.sk ?_
    refine Stk.sq ?_
    refine Stk.sq ?_
    refine Stk.rg ?_
    refine Stk.run 3 (fun t H n => t 0 = .ssl (encs c97 a0) a0.length false ∧ t 8 = .ssl (encs c97 a0) a0.length false ∧ t 9 = .sc (.int .i64 (a0.length : Int)) ∧ t 10 = .sc (.int .i64 0)) (fun J hJ => ?_) ?_
    · simp [-splice, f0, f7]
      exact hJ _ _ _ ⟨by simp [f0], by simp [-splice, f0, f7], by simp [-splice, f0, f7], by simp [-splice, f0, f7]⟩
    clear f0 f7
    rintro t H n ⟨f0, f8, f9, f10⟩
    refine Stk.on ?_
    refine Stk.bk ?_
    refine Stk.lo (fun μ t H n => ∃ v2 : Int, poly_Fit_L0 F a0 μ v2 = some r ∧ t 0 = .ssl (encs c97 a0) a0.length false ∧ t 8 = .ssl (encs c97 a0) a0.length false ∧ t 9 = .sc (.int .i64 (a0.length : Int)) ∧ t 10 = .sc (.int .i64 v2)) F ⟨0, h, f0, f8, f9, f10⟩ ?_
    clear h f0 f8 f9 f10
    rintro J1 hJ1 μ t H n ⟨v2, h, f0, f8, f9, f10⟩
    cases μ with
    | zero => exact absurd h (by simp [poly_Fit_L0])
    | succ μ =>
    rw [poly_Fit_L0] at h
    refine Stk.sq ?_
    refine Stk.rg ?_
    refine Stk.run 1 (fun t H n => t 0 = .ssl (encs c97 a0) a0.length false ∧ t 8 = .ssl (encs c97 a0) a0.length false ∧ t 9 = .sc (.int .i64 (a0.length : Int)) ∧ t 10 = .sc (.int .i64 v2) ∧ t 11 = .sc (.bool (decide (v2 < (a0.length : Int))))) (fun J hJ => ?_) ?_
    · simp [-splice, f0, f8, f9, f10]
      exact hJ _ _ _ ⟨by simp [f0], by simp [f8], by simp [f9], by simp [f10], by simp [-splice, f0, f8, f9, f10]⟩
    clear f0 f8 f9 f10
    rintro t H n ⟨f0, f8, f9, f10, f11⟩
    refine Stk.on ?_
    refine Stk.sq ?_
    refine Stk.cond (decide (v2 < (a0.length : Int))) (by exact f11) (fun hb4 => ?_) (fun hb4 => ?_)
    · have h := cT hb4 h
      refine Stk.sk ?_
      refine Stk.sq ?_
      refine Stk.bk ?_
      refine Stk.sq ?_
      refine Stk.rg ?_
      obtain ⟨x5, hx5, h⟩ := bnd h
      obtain ⟨i0x5, i1x5, i2x5, _⟩ := idx_ok hx5
      have ex5_0_97 : partOf T.T 97 (encs c97 a0) (v2.toNat * 13) = some (.agg (c97 x5)) := by
          have e0 := part_elem0 (e := c97) (z := 13) (T := T.T) (ty := 97) T.t97 (by decide) (by decide) hx5 0 (by decide)
          (try simp only [Nat.mul_one, Nat.add_zero] at e0)
          exact e0.trans (ld_97_0_97 _)
      refine Stk.run 3 (fun t H n => t 0 = .ssl (encs c97 a0) a0.length false ∧ t 8 = .ssl (encs c97 a0) a0.length false ∧ t 9 = .sc (.int .i64 (a0.length : Int)) ∧ t 10 = .sc (.int .i64 v2) ∧ t 12 = .sc (.int .i64 v2) ∧ t 14 = .agg (c97 x5)) (fun J hJ => ?_) ?_
      · simp [-splice, f0, f8, f9, f10, f11, i0x5, i1x5, pd97, ex5_0_97]
        exact hJ _ _ _ ⟨by simp [f0], by simp [f8], by simp [f9], by simp [f10], by simp [-splice, f0, f8, f9, f10, f11, i0x5, i1x5, pd97, ex5_0_97], by simp [-splice, f0, f8, f9, f10, f11, i0x5, i1x5, pd97, ex5_0_97]⟩
      clear f0 f8 f9 f10 f11
      rintro t H n ⟨f0, f8, f9, f10, f12, f14⟩
      refine Stk.om (mop_alloc T.t97 (cs := c97 (api_Term.mk (Arr.rep 12 0) 0)) rfl) (by simp [f0, f8, f9, f10, f12, f14]) rfl (fun t' ht' => ?_)
      refine Stk.gen (fun t H n => ∃ b6, t 0 = .ssl (encs c97 a0) a0.length false ∧ t 4 = .own b6 0 ∧ t 8 = .ssl (encs c97 a0) a0.length false ∧ t 9 = .sc (.int .i64 (a0.length : Int)) ∧ t 10 = .sc (.int .i64 v2) ∧ t 12 = .sc (.int .i64 v2) ∧ t 14 = .agg (c97 x5) ∧ H b6 = some (.cells (c97 (api_Term.mk (Arr.rep 12 0) 0)) 97) ∧ b6 < n) ⟨n, by simp [ht', f0], by simp [ht'], by simp [ht', f8], by simp [ht', f9], by simp [ht', f10], by simp [ht', f12], by simp [ht', f14], upd_same _ _ _, Nat.lt_succ_self _⟩ ?_
      clear f0 f8 f9 f10 f12 f14 ht' t'
      rintro t H n ⟨b6, f0, f4, f8, f9, f10, f12, f14, b_b6, l_b6⟩
      refine Stk.run 1 (fun t H n => t 0 = .ssl (encs c97 a0) a0.length false ∧ t 3 = .sc (.int .i64 v2) ∧ t 4 = .own b6 0 ∧ t 8 = .ssl (encs c97 a0) a0.length false ∧ t 9 = .sc (.int .i64 (a0.length : Int)) ∧ t 10 = .sc (.int .i64 v2) ∧ t 14 = .agg (c97 x5) ∧ H b6 = some (.cells (c97 (api_Term.mk (Arr.rep 12 0) 0)) 97) ∧ b6 < n) (fun J hJ => ?_) ?_
      · simp [-splice, f0, f4, f8, f9, f10, f12, f14, b_b6]
        exact hJ _ _ _ ⟨by simp [f0], by simp [-splice, f0, f4, f8, f9, f10, f12, f14, b_b6], by simp [f4], by simp [f8], by simp [f9], by simp [f10], by simp [f14], b_b6, l_b6⟩
      clear f0 f4 f8 f9 f10 f12 f14 b_b6 l_b6
      rintro t H n ⟨f0, f3, f4, f8, f9, f10, f14, b_b6, l_b6⟩
      refine Stk.om (mop_store (z := 13) rfl f4 b_b6 f14 (len97 _) (by rw [len97]; decide) (ok97 _) (st_97_0_97 _ _)) (by simp [f0, f3, f4, f8, f9, f10, f14]) rfl (fun t' ht' => ?_)
      refine Stk.gen (fun t H n => t 0 = .ssl (encs c97 a0) a0.length false ∧ t 3 = .sc (.int .i64 v2) ∧ t 4 = .own b6 0 ∧ t 8 = .ssl (encs c97 a0) a0.length false ∧ t 9 = .sc (.int .i64 (a0.length : Int)) ∧ t 10 = .sc (.int .i64 v2) ∧ H b6 = some (.cells (c97 x5) 97) ∧ b6 < n) ⟨by simp [ht', f0], by simp [ht', f3], by simp [ht', f4], by simp [ht', f8], by simp [ht', f9], by simp [ht', f10], upd_same _ _ _, l_b6⟩ ?_
      clear f0 f3 f4 f8 f9 f10 f14 b_b6 l_b6 ht' t'
      rintro t H n ⟨f0, f3, f4, f8, f9, f10, b_b6, l_b6⟩
      refine Stk.on ?_
      refine Stk.sq ?_
      obtain ⟨n0, hn0⟩ : ∃ m, m = n := ⟨n, rfl⟩
      have ln0 : n0 ≤ n := Nat.le_of_eq hn0
      refine Stk.rgD [.rd [], .rd [b6], .rd [], .rd [], .rd [], .rd [b6], .rd [], .rd [], .rd [], .rd [], .rd [b6], .rd [], .rd [], .rd [], .rd [], .rd [], .rd [], .rd [], .rd [], .rd [], .rd [], .rd [], .rd [], .rd [], .rd [], .rd [b6], .rd [], .rd [], .rd [], .rd []] none (by kernel_rfl) (by rfl) rfl (by simp [below, hn0, l_b6]) rfl ?_
      refine Stk.runD 4 (fun t H n => t 0 = .ssl (encs c97 a0) a0.length false ∧ t 3 = .sc (.int .i64 v2) ∧ t 4 = .own b6 0 ∧ t 8 = .ssl (encs c97 a0) a0.length false ∧ t 9 = .sc (.int .i64 (a0.length : Int)) ∧ t 10 = .sc (.int .i64 v2) ∧ t 18 = .sc (.bool (decide (x5.Coef < 1))) ∧ H b6 = some (.cells (c97 x5) 97) ∧ b6 < n ∧ n0 ≤ n) (fun J hJ => ?_) ?_
      · simp [-splice, f0, f3, f4, f8, f9, f10, b_b6, ld_97_12_2]
        exact hJ _ _ _ ⟨by simp [f0], by simp [f3], by simp [f4], by simp [f8], by simp [f9], by simp [f10], by simp [-splice, f0, f3, f4, f8, f9, f10, b_b6, ld_97_12_2], b_b6, l_b6, ln0⟩
      clear f0 f3 f4 f8 f9 f10 b_b6 l_b6 ln0
      rintro t H n ⟨f0, f3, f4, f8, f9, f10, f18, b_b6, l_b6, ln0⟩
      refine Stk.jd 4 (fun t H n => t 0 = .ssl (encs c97 a0) a0.length false ∧ t 3 = .sc (.int .i64 v2) ∧ t 4 = .own b6 0 ∧ t 8 = .ssl (encs c97 a0) a0.length false ∧ t 9 = .sc (.int .i64 (a0.length : Int)) ∧ t 10 = .sc (.int .i64 v2) ∧ t 22 = .sc (.bool ((decide (x5.Coef < 1)) || (decide (1099511627776 < x5.Coef)))) ∧ H b6 = some (.cells (c97 x5) 97) ∧ b6 < n ∧ n0 ≤ n) (fun J2 hJ2 => ?_) ?_
      · rcases Bool.eq_false_or_eq_true (decide (x5.Coef < 1)) with hb2 | hb2
        · rw [hb2] at f18
          refine Stk.runD 4 (fun t H n => t 0 = .ssl (encs c97 a0) a0.length false ∧ t 3 = .sc (.int .i64 v2) ∧ t 4 = .own b6 0 ∧ t 8 = .ssl (encs c97 a0) a0.length false ∧ t 9 = .sc (.int .i64 (a0.length : Int)) ∧ t 10 = .sc (.int .i64 v2) ∧ t 22 = .sc (.bool true) ∧ H b6 = some (.cells (c97 x5) 97) ∧ b6 < n ∧ n0 ≤ n) (fun J hJ => ?_) ?_
          · simp [-splice, f0, f3, f4, f8, f9, f10, f18, b_b6]
            exact hJ _ _ _ ⟨by simp [f0], by simp [f3], by simp [f4], by simp [f8], by simp [f9], by simp [f10], by simp [-splice, f0, f3, f4, f8, f9, f10, f18, b_b6], b_b6, l_b6, ln0⟩
          clear f0 f3 f4 f8 f9 f10 f18 b_b6 l_b6 ln0
          rintro t H n ⟨f0, f3, f4, f8, f9, f10, f22, b_b6, l_b6, ln0⟩
          refine Stk.onD ?_
          exact Stk.ln 0 (by decide) (hJ2 _ _ _ ⟨f0, f3, f4, f8, f9, f10, f22.trans (congrArg (fun q => AV.sc (.bool q)) (by rw [hb2]; rfl)), b_b6, l_b6, ln0⟩)
        · rw [hb2] at f18
          refine Stk.runD 4 (fun t H n => t 0 = .ssl (encs c97 a0) a0.length false ∧ t 3 = .sc (.int .i64 v2) ∧ t 4 = .own b6 0 ∧ t 8 = .ssl (encs c97 a0) a0.length false ∧ t 9 = .sc (.int .i64 (a0.length : Int)) ∧ t 10 = .sc (.int .i64 v2) ∧ t 22 = .sc (.bool (decide (1099511627776 < x5.Coef))) ∧ H b6 = some (.cells (c97 x5) 97) ∧ b6 < n ∧ n0 ≤ n) (fun J hJ => ?_) ?_
          · simp [-splice, f0, f3, f4, f8, f9, f10, f18, b_b6, ld_97_12_2]
            exact hJ _ _ _ ⟨by simp [f0], by simp [f3], by simp [f4], by simp [f8], by simp [f9], by simp [f10], by simp [-splice, f0, f3, f4, f8, f9, f10, f18, b_b6, ld_97_12_2], b_b6, l_b6, ln0⟩
          clear f0 f3 f4 f8 f9 f10 f18 b_b6 l_b6 ln0
          rintro t H n ⟨f0, f3, f4, f8, f9, f10, f22, b_b6, l_b6, ln0⟩
          refine Stk.onD ?_
          exact Stk.ln 0 (by decide) (hJ2 _ _ _ ⟨f0, f3, f4, f8, f9, f10, f22.trans (congrArg (fun q => AV.sc (.bool q)) (by rw [hb2]; rfl)), b_b6, l_b6, ln0⟩)
      clear f0 f3 f4 f8 f9 f10 f18 b_b6 l_b6 ln0
      rintro t H n ⟨f0, f3, f4, f8, f9, f10, f22, b_b6, l_b6, ln0⟩
      refine Stk.runD 1 (fun t H n => t 0 = .ssl (encs c97 a0) a0.length false ∧ t 3 = .sc (.int .i64 v2) ∧ t 4 = .own b6 0 ∧ t 8 = .ssl (encs c97 a0) a0.length false ∧ t 9 = .sc (.int .i64 (a0.length : Int)) ∧ t 10 = .sc (.int .i64 v2) ∧ t 23 = .sc (.bool ((decide (x5.Coef < 1)) || (decide (1099511627776 < x5.Coef)))) ∧ H b6 = some (.cells (c97 x5) 97) ∧ b6 < n ∧ n0 ≤ n) (fun J hJ => ?_) ?_
      · simp [-splice, f0, f3, f4, f8, f9, f10, f22, b_b6]
        exact hJ _ _ _ ⟨by simp [f0], by simp [f3], by simp [f4], by simp [f8], by simp [f9], by simp [f10], by simp [-splice, f0, f3, f4, f8, f9, f10, f22, b_b6], b_b6, l_b6, ln0⟩
      clear f0 f3 f4 f8 f9 f10 f22 b_b6 l_b6 ln0
      rintro t H n ⟨f0, f3, f4, f8, f9, f10, f23, b_b6, l_b6, ln0⟩
      obtain ⟨K3, hK3, h⟩ := jnd h
      refine Stk.jd 5 (fun t H n => ∃ v7 : Bool, K3 v7 = some r ∧ t 0 = .ssl (encs c97 a0) a0.length false ∧ t 3 = .sc (.int .i64 v2) ∧ t 4 = .own b6 0 ∧ t 8 = .ssl (encs c97 a0) a0.length false ∧ t 9 = .sc (.int .i64 (a0.length : Int)) ∧ t 10 = .sc (.int .i64 v2) ∧ t 28 = .sc (.bool v7) ∧ H b6 = some (.cells (c97 x5) 97) ∧ b6 < n) (fun J3 hJ3 => ?_) ?_
      · rcases Bool.eq_false_or_eq_true ((decide (x5.Coef < 1)) || (decide (1099511627776 < x5.Coef))) with hb3 | hb3
        · rw [hb3] at f23
          replace h := cT hb3 h
          refine Stk.runD 5 (fun t H n => t 0 = .ssl (encs c97 a0) a0.length false ∧ t 3 = .sc (.int .i64 v2) ∧ t 4 = .own b6 0 ∧ t 8 = .ssl (encs c97 a0) a0.length false ∧ t 9 = .sc (.int .i64 (a0.length : Int)) ∧ t 10 = .sc (.int .i64 v2) ∧ t 28 = .sc (.bool true) ∧ H b6 = some (.cells (c97 x5) 97) ∧ b6 < n ∧ n0 ≤ n) (fun J hJ => ?_) ?_
          · simp [-splice, f0, f3, f4, f8, f9, f10, f23, b_b6]
            exact hJ _ _ _ ⟨by simp [f0], by simp [f3], by simp [f4], by simp [f8], by simp [f9], by simp [f10], by simp [-splice, f0, f3, f4, f8, f9, f10, f23, b_b6], b_b6, l_b6, ln0⟩
          clear f0 f3 f4 f8 f9 f10 f23 b_b6 l_b6 ln0
          rintro t H n ⟨f0, f3, f4, f8, f9, f10, f28, b_b6, l_b6, ln0⟩
          refine Stk.onD ?_
          exact Stk.ln 0 (by decide) (hJ3 _ _ _ ⟨true, h, f0, f3, f4, f8, f9, f10, f28, b_b6, l_b6⟩)
        · rw [hb3] at f23
          replace h := cF hb3 h
          refine Stk.runD 2 (fun t H n => t 0 = .ssl (encs c97 a0) a0.length false ∧ t 3 = .sc (.int .i64 v2) ∧ t 4 = .own b6 0 ∧ t 8 = .ssl (encs c97 a0) a0.length false ∧ t 9 = .sc (.int .i64 (a0.length : Int)) ∧ t 10 = .sc (.int .i64 v2) ∧ t 23 = .sc (.bool false) ∧ t 25 = .agg (c95 x5.Exps) ∧ H b6 = some (.cells (c97 x5) 97) ∧ b6 < n ∧ n0 ≤ n) (fun J hJ => ?_) ?_
          · simp [-splice, f0, f3, f4, f8, f9, f10, f23, b_b6, ld_97_0_95]
            exact hJ _ _ _ ⟨by simp [f0], by simp [f3], by simp [f4], by simp [f8], by simp [f9], by simp [f10], by simp [f23], by simp [-splice, f0, f3, f4, f8, f9, f10, f23, b_b6, ld_97_0_95], b_b6, l_b6, ln0⟩
          clear f0 f3 f4 f8 f9 f10 f23 b_b6 l_b6 ln0
          rintro t H n ⟨f0, f3, f4, f8, f9, f10, f23, f25, b_b6, l_b6, ln0⟩
          obtain ⟨x8, hx8, h⟩ := bnd h
          refine Stk.cvD (g := 74) (args := [.agg (c95 x5.Exps)]) (args' := [.agg (c95 x5.Exps)]) (v := .sc (.bool x8)) [] (ok_poly_powers_fit F _ _ hx8) rfl (by simp) rfl (by simp [f0, f3, f4, f8, f9, f10, f23, f25]) rfl rfl (by simp [f0, f3, f4, f8, f9, f10, f23, f25]) (.cons (.free (fr95 _)) (.nil)) (.inl ⟨rfl, rfl⟩) (fun t' ht' => ?_)
          refine Stk.gen (fun t H n => t 0 = .ssl (encs c97 a0) a0.length false ∧ t 3 = .sc (.int .i64 v2) ∧ t 4 = .own b6 0 ∧ t 8 = .ssl (encs c97 a0) a0.length false ∧ t 9 = .sc (.int .i64 (a0.length : Int)) ∧ t 10 = .sc (.int .i64 v2) ∧ t 23 = .sc (.bool false) ∧ t 26 = .sc (.bool x8) ∧ H b6 = some (.cells (c97 x5) 97) ∧ b6 < n ∧ n0 ≤ n) ⟨by simp [ht', f0], by simp [ht', f3], by simp [ht', f4], by simp [ht', f8], by simp [ht', f9], by simp [ht', f10], by simp [ht', f23], by simp [ht'], b_b6, l_b6, ln0⟩ ?_
          clear f0 f3 f4 f8 f9 f10 f23 f25 b_b6 l_b6 ln0 ht' t'
          rintro t H n ⟨f0, f3, f4, f8, f9, f10, f23, f26, b_b6, l_b6, ln0⟩
          refine Stk.runD 2 (fun t H n => t 0 = .ssl (encs c97 a0) a0.length false ∧ t 3 = .sc (.int .i64 v2) ∧ t 4 = .own b6 0 ∧ t 8 = .ssl (encs c97 a0) a0.length false ∧ t 9 = .sc (.int .i64 (a0.length : Int)) ∧ t 10 = .sc (.int .i64 v2) ∧ t 28 = .sc (.bool (!x8)) ∧ H b6 = some (.cells (c97 x5) 97) ∧ b6 < n ∧ n0 ≤ n) (fun J hJ => ?_) ?_
          · simp [-splice, f0, f3, f4, f8, f9, f10, f23, f26, b_b6]
            exact hJ _ _ _ ⟨by simp [f0], by simp [f3], by simp [f4], by simp [f8], by simp [f9], by simp [f10], by simp [-splice, f0, f3, f4, f8, f9, f10, f23, f26, b_b6], b_b6, l_b6, ln0⟩
          clear f0 f3 f4 f8 f9 f10 f23 f26 b_b6 l_b6 ln0
          rintro t H n ⟨f0, f3, f4, f8, f9, f10, f28, b_b6, l_b6, ln0⟩
          refine Stk.onD ?_
          exact Stk.ln 0 (by decide) (hJ3 _ _ _ ⟨(!x8), h, f0, f3, f4, f8, f9, f10, f28, b_b6, l_b6⟩)
      clear h f0 f3 f4 f8 f9 f10 f23 b_b6 l_b6 ln0
      rintro t H n ⟨v7, h, f0, f3, f4, f8, f9, f10, f28, b_b6, l_b6⟩
      subst hK3
      refine Stk.runD 1 (fun t H n => t 0 = .ssl (encs c97 a0) a0.length false ∧ t 3 = .sc (.int .i64 v2) ∧ t 4 = .own b6 0 ∧ t 8 = .ssl (encs c97 a0) a0.length false ∧ t 9 = .sc (.int .i64 (a0.length : Int)) ∧ t 10 = .sc (.int .i64 v2) ∧ t 29 = .sc (.bool v7) ∧ H b6 = some (.cells (c97 x5) 97) ∧ b6 < n) (fun J hJ => ?_) ?_
      · simp [-splice, f0, f3, f4, f8, f9, f10, f28, b_b6]
        exact hJ _ _ _ ⟨by simp [f0], by simp [f3], by simp [f4], by simp [f8], by simp [f9], by simp [f10], by simp [-splice, f0, f3, f4, f8, f9, f10, f28, b_b6], b_b6, l_b6⟩
      clear f0 f3 f4 f8 f9 f10 f28 b_b6 l_b6
      rintro t H n ⟨f0, f3, f4, f8, f9, f10, f29, b_b6, l_b6⟩
      obtain ⟨K4, hK4, h⟩ := jnd h
      refine Stk.jd 15 (fun t H n => ∃ v9 : Bool, K4 v9 = some r ∧ t 0 = .ssl (encs c97 a0) a0.length false ∧ t 8 = .ssl (encs c97 a0) a0.length false ∧ t 9 = .sc (.int .i64 (a0.length : Int)) ∧ t 10 = .sc (.int .i64 v2) ∧ t 44 = .sc (.bool v9)) (fun J4 hJ4 => ?_) ?_
      · rcases Bool.eq_false_or_eq_true v7 with hb4 | hb4
        · rw [hb4] at f29
          replace h := cT hb4 h
          refine Stk.runD 15 (fun t H n => t 0 = .ssl (encs c97 a0) a0.length false ∧ t 8 = .ssl (encs c97 a0) a0.length false ∧ t 9 = .sc (.int .i64 (a0.length : Int)) ∧ t 10 = .sc (.int .i64 v2) ∧ t 44 = .sc (.bool true)) (fun J hJ => ?_) ?_
          · simp [-splice, f0, f3, f4, f8, f9, f10, f29, b_b6]
            exact hJ _ _ _ ⟨by simp [f0], by simp [f8], by simp [f9], by simp [f10], by simp [-splice, f0, f3, f4, f8, f9, f10, f29, b_b6]⟩
          clear f0 f3 f4 f8 f9 f10 f29 b_b6 l_b6
          rintro t H n ⟨f0, f8, f9, f10, f44⟩
          refine Stk.onD ?_
          exact Stk.ln 0 (by decide) (hJ4 _ _ _ ⟨true, h, f0, f8, f9, f10, f44⟩)
        · rw [hb4] at f29
          replace h := cF hb4 h
          refine Stk.runD 3 (fun t H n => t 0 = .ssl (encs c97 a0) a0.length false ∧ t 3 = .sc (.int .i64 v2) ∧ t 4 = .own b6 0 ∧ t 8 = .ssl (encs c97 a0) a0.length false ∧ t 9 = .sc (.int .i64 (a0.length : Int)) ∧ t 10 = .sc (.int .i64 v2) ∧ t 29 = .sc (.bool false) ∧ t 32 = .sc (.bool (decide (0 < v2))) ∧ H b6 = some (.cells (c97 x5) 97) ∧ b6 < n) (fun J hJ => ?_) ?_
          · simp [-splice, f0, f3, f4, f8, f9, f10, f29, b_b6]
            exact hJ _ _ _ ⟨by simp [f0], by simp [f3], by simp [f4], by simp [f8], by simp [f9], by simp [f10], by simp [f29], by simp [-splice, f0, f3, f4, f8, f9, f10, f29, b_b6], b_b6, l_b6⟩
          clear f0 f3 f4 f8 f9 f10 f29 b_b6 l_b6
          rintro t H n ⟨f0, f3, f4, f8, f9, f10, f29, f32, b_b6, l_b6⟩
          obtain ⟨K5, hK5, h⟩ := jnd h
          refine Stk.jd 11 (fun t H n => ∃ v10 : Bool, K5 v10 = some r ∧ t 0 = .ssl (encs c97 a0) a0.length false ∧ t 8 = .ssl (encs c97 a0) a0.length false ∧ t 9 = .sc (.int .i64 (a0.length : Int)) ∧ t 10 = .sc (.int .i64 v2) ∧ t 29 = .sc (.bool false) ∧ t 43 = .sc (.bool v10)) (fun J5 hJ5 => ?_) ?_
          · rcases Bool.eq_false_or_eq_true (decide (0 < v2)) with hb5 | hb5
            · rw [hb5] at f32
              replace h := cT hb5 h
              obtain ⟨x11, hx11, h⟩ := bnd h
              obtain ⟨i0x11, i1x11, i2x11, _⟩ := idx_ok hx11
              have ex11_0_95 : partOf T.T 95 (encs c97 a0) ((IntKind.i64.wrap (v2 - 1)).toNat * 13) = some (.agg (c95 x11.Exps)) := by
                  have e0 := part_elem0 (e := c97) (z := 13) (T := T.T) (ty := 95) T.t95 (by decide) (by decide) hx11 0 (by decide)
                  (try simp only [Nat.mul_one, Nat.add_zero] at e0)
                  exact e0.trans (ld_97_0_95 _)
              refine Stk.runD 8 (fun t H n => t 0 = .ssl (encs c97 a0) a0.length false ∧ t 8 = .ssl (encs c97 a0) a0.length false ∧ t 9 = .sc (.int .i64 (a0.length : Int)) ∧ t 10 = .sc (.int .i64 v2) ∧ t 29 = .sc (.bool false) ∧ t 32 = .sc (.bool true) ∧ t 38 = .agg (c95 x11.Exps) ∧ t 40 = .agg (c95 x5.Exps)) (fun J hJ => ?_) ?_
              · simp [-splice, f0, f3, f4, f8, f9, f10, f29, f32, b_b6, i0x11, i1x11, pd95, ex11_0_95, ld_97_0_95]
                exact hJ _ _ _ ⟨by simp [f0], by simp [f8], by simp [f9], by simp [f10], by simp [f29], by simp [f32], by simp [-splice, f0, f3, f4, f8, f9, f10, f29, f32, b_b6, i0x11, i1x11, pd95, ex11_0_95, ld_97_0_95], by simp [-splice, f0, f3, f4, f8, f9, f10, f29, f32, b_b6, i0x11, i1x11, pd95, ex11_0_95, ld_97_0_95]⟩
              clear f0 f3 f4 f8 f9 f10 f29 f32 b_b6 l_b6
              rintro t H n ⟨f0, f8, f9, f10, f29, f32, f38, f40⟩
              obtain ⟨x12, hx12, h⟩ := bnd h
              refine Stk.cvD (g := 75) (args := [.agg (c95 x11.Exps), .agg (c95 x5.Exps)]) (args' := [.agg (c95 x11.Exps), .agg (c95 x5.Exps)]) (v := .sc (.int .i64 x12)) [] (ok_poly_compare F _ _ _ hx12) rfl (by simp) rfl (by simp [f0, f8, f9, f10, f29, f32, f38, f40]) rfl rfl (by simp [f0, f8, f9, f10, f29, f32, f38, f40]) (.cons (.free (fr95 _)) (.cons (.free (fr95 _)) (.nil))) (.inl ⟨rfl, rfl⟩) (fun t' ht' => ?_)
              refine Stk.gen (fun t H n => t 0 = .ssl (encs c97 a0) a0.length false ∧ t 8 = .ssl (encs c97 a0) a0.length false ∧ t 9 = .sc (.int .i64 (a0.length : Int)) ∧ t 10 = .sc (.int .i64 v2) ∧ t 29 = .sc (.bool false) ∧ t 32 = .sc (.bool true) ∧ t 41 = .sc (.int .i64 x12)) ⟨by simp [ht', f0], by simp [ht', f8], by simp [ht', f9], by simp [ht', f10], by simp [ht', f29], by simp [ht', f32], by simp [ht']⟩ ?_
              clear f0 f8 f9 f10 f29 f32 f38 f40 ht' t'
              rintro t H n ⟨f0, f8, f9, f10, f29, f32, f41⟩
              refine Stk.runD 2 (fun t H n => t 0 = .ssl (encs c97 a0) a0.length false ∧ t 8 = .ssl (encs c97 a0) a0.length false ∧ t 9 = .sc (.int .i64 (a0.length : Int)) ∧ t 10 = .sc (.int .i64 v2) ∧ t 29 = .sc (.bool false) ∧ t 43 = .sc (.bool (decide (0 ≤ x12)))) (fun J hJ => ?_) ?_
              · simp [-splice, f0, f8, f9, f10, f29, f32, f41]
                exact hJ _ _ _ ⟨by simp [f0], by simp [f8], by simp [f9], by simp [f10], by simp [f29], by simp [-splice, f0, f8, f9, f10, f29, f32, f41]⟩
              clear f0 f8 f9 f10 f29 f32 f41
              rintro t H n ⟨f0, f8, f9, f10, f29, f43⟩
              refine Stk.onD ?_
              exact Stk.ln 0 (by decide) (hJ5 _ _ _ ⟨(decide (0 ≤ x12)), h, f0, f8, f9, f10, f29, f43⟩)
            · rw [hb5] at f32
              replace h := cF hb5 h
              refine Stk.runD 11 (fun t H n => t 0 = .ssl (encs c97 a0) a0.length false ∧ t 8 = .ssl (encs c97 a0) a0.length false ∧ t 9 = .sc (.int .i64 (a0.length : Int)) ∧ t 10 = .sc (.int .i64 v2) ∧ t 29 = .sc (.bool false) ∧ t 43 = .sc (.bool false)) (fun J hJ => ?_) ?_
              · simp [-splice, f0, f3, f4, f8, f9, f10, f29, f32, b_b6]
                exact hJ _ _ _ ⟨by simp [f0], by simp [f8], by simp [f9], by simp [f10], by simp [f29], by simp [-splice, f0, f3, f4, f8, f9, f10, f29, f32, b_b6]⟩
              clear f0 f3 f4 f8 f9 f10 f29 f32 b_b6 l_b6
              rintro t H n ⟨f0, f8, f9, f10, f29, f43⟩
              refine Stk.onD ?_
              exact Stk.ln 0 (by decide) (hJ5 _ _ _ ⟨false, h, f0, f8, f9, f10, f29, f43⟩)
          clear h f0 f3 f4 f8 f9 f10 f29 f32 b_b6 l_b6
          rintro t H n ⟨v10, h, f0, f8, f9, f10, f29, f43⟩
          subst hK5
          refine Stk.runD 1 (fun t H n => t 0 = .ssl (encs c97 a0) a0.length false ∧ t 8 = .ssl (encs c97 a0) a0.length false ∧ t 9 = .sc (.int .i64 (a0.length : Int)) ∧ t 10 = .sc (.int .i64 v2) ∧ t 44 = .sc (.bool v10)) (fun J hJ => ?_) ?_
          · simp [-splice, f0, f8, f9, f10, f29, f43]
            exact hJ _ _ _ ⟨by simp [f0], by simp [f8], by simp [f9], by simp [f10], by simp [-splice, f0, f8, f9, f10, f29, f43]⟩
          clear f0 f8 f9 f10 f29 f43
          rintro t H n ⟨f0, f8, f9, f10, f44⟩
          refine Stk.onD ?_
          exact Stk.ln 0 (by decide) (hJ4 _ _ _ ⟨v10, h, f0, f8, f9, f10, f44⟩)
      clear h f0 f3 f4 f8 f9 f10 f29 b_b6 l_b6
      rintro t H n ⟨v9, h, f0, f8, f9, f10, f44⟩
      subst hK4
      refine Stk.onD ?_
      refine Stk.cond v9 (by exact f44) (fun hb13 => ?_) (fun hb13 => ?_)
      · have h := cT hb13 h
        refine Stk.sq ?_
        refine Stk.rg ?_
        refine Stk.run 1 (fun t H n => t 2 = .sc (.bool false)) (fun J hJ => ?_) ?_
        · simp [-splice, f0, f8, f9, f10, f44]
          exact hJ _ _ _ (by simp [-splice, f0, f8, f9, f10, f44])
        clear f0 f8 f9 f10 f44
        rintro t H n f2
        refine Stk.on ?_
        refine Stk.rt ?_
        have hq := Option.some.inj h; subst hq
        exact (hr _ _ _ (.sc (.bool false)) ([]) (by simp [f2]) (.inr (.inr (.free (rfl))))).1
      · have h := cF hb13 h
        refine Stk.sk ?_
        refine Stk.bn ?_
        refine Stk.rg ?_
        refine Stk.run 2 (fun t H n => t 0 = .ssl (encs c97 a0) a0.length false ∧ t 8 = .ssl (encs c97 a0) a0.length false ∧ t 9 = .sc (.int .i64 (a0.length : Int)) ∧ t 10 = .sc (.int .i64 (IntKind.i64.wrap (v2 + 1)))) (fun J hJ => ?_) ?_
        · simp [-splice, f0, f8, f9, f10, f44]
          exact hJ _ _ _ ⟨by simp [f0], by simp [f8], by simp [f9], by simp [-splice, f0, f8, f9, f10, f44]⟩
        clear f0 f8 f9 f10 f44
        rintro t H n ⟨f0, f8, f9, f10⟩
        refine Stk.on ?_
        exact Stk.ln μ (Nat.lt_succ_self _) (hJ1 _ _ _ _ ⟨(IntKind.i64.wrap (v2 + 1)), h, f0, f8, f9, f10⟩)
    · have h := cF hb4 h
      refine Stk.ex rfl ?_
      refine Stk.sq ?_
      refine Stk.rg ?_
      refine Stk.run 1 (fun t H n => t 2 = .sc (.bool true)) (fun J hJ => ?_) ?_
      · simp [-splice, f0, f8, f9, f10, f11]
        exact hJ _ _ _ (by simp [-splice, f0, f8, f9, f10, f11])
      clear f0 f8 f9 f10 f11
      rintro t H n f2
      refine Stk.on ?_
      refine Stk.rt ?_
      have hq := Option.some.inj h; subst hq
      exact (hr _ _ _ (.sc (.bool true)) ([]) (by simp [f2]) (.inr (.inr (.free (rfl))))).1
theorem ok_poly_checked (F : Nat) (a0 : (List api_Term)) (r : ((List api_Term) × Int)) (h : poly_checked F a0 = some r) : RunF Try.prog T.T 61 [.ssl (encs c97 a0) a0.length false] (.tup [.ssl (encs c97 r.1) r.1.length false, .sc (.int .i64 r.2)]) := by
  rw [poly_checked] at h
  refine RunF.z Try.func61 rfl rfl rfl rfl rfl (fun C hr => ?_)
  refine Stk.gen (fun t H n => t 0 = .ssl (encs c97 a0) a0.length false) (by simp) ?_
  rintro t H n f0
  refine Stk.sq ?_
  refine Stk.rg ?_
  refine Stk.run 1 (fun t H n => t 0 = .ssl (encs c97 a0) a0.length false) (fun J hJ => ?_) ?_
  · simp [-splice, f0]
    exact hJ _ _ _ (by simp [f0])
  clear f0
  rintro t H n f0
  refine Stk.run 1 (fun t H n => t 0 = .ssl (encs c97 a0) a0.length false) (fun J hJ => ?_) ?_
  · simp [-splice, f0]
    exact hJ _ _ _ (by simp [f0])
  clear f0
  rintro t H n f0
  refine Stk.on ?_
  refine Stk.sq ?_
  refine Stk.sq ?_
  refine Stk.rg ?_
  refine Stk.run 1 (fun t H n => t 0 = .ssl (encs c97 a0) a0.length false ∧ t 4 = .ssl (encs c97 a0) a0.length false) (fun J hJ => ?_) ?_
  · simp [-splice, f0]
    exact hJ _ _ _ ⟨by simp [f0], by simp [-splice, f0]⟩
  clear f0
  rintro t H n ⟨f0, f4⟩
  obtain ⟨x1, hx1, h⟩ := bnd h
  refine Stk.cv (g := 38) (args := [.ssl (encs c97 a0) a0.length false]) (args' := [.ssl (encs c97 a0) a0.length false]) (v := .sc (.bool x1)) [] (ok_poly_Fit F _ _ hx1) (by simp [f0, f4]) rfl rfl (by simp [f0, f4]) (.cons (.free (freeL_encs fr97 _)) (.nil)) (.inl ⟨rfl, rfl⟩) (fun t' ht' => ?_)
  refine Stk.gen (fun t H n => t 0 = .ssl (encs c97 a0) a0.length false ∧ t 5 = .sc (.bool x1)) ⟨by simp [ht', f0], by simp [ht']⟩ ?_
  clear f0 f4 ht' t'
  rintro t H n ⟨f0, f5⟩
  refine Stk.run 1 (fun t H n => t 0 = .ssl (encs c97 a0) a0.length false ∧ t 6 = .sc (.bool (!x1))) (fun J hJ => ?_) ?_
  · simp [-splice, f0, f5]
    exact hJ _ _ _ ⟨by simp [f0], by simp [-splice, f0, f5]⟩
  clear f0 f5
  rintro t H n ⟨f0, f6⟩
  refine Stk.on ?_
  refine Stk.cond (!x1) (by exact f6) (fun hb2 => ?_) (fun hb2 => ?_)
  · have h := cT hb2 h
    refine Stk.sq ?_
    refine Stk.rg ?_
    refine Stk.run 1 (fun t H n => t 2 = .sc (.slice none 0 0)) (fun J hJ => ?_) ?_
    · simp [-splice, f0, f6]
      exact hJ _ _ _ (by simp [-splice, f0, f6])
    clear f0 f6
    rintro t H n f2
    refine Stk.wk trivial 2 (.ssl (encs c97 ([] : (List api_Term))) ([] : (List api_Term)).length false) (by rw [f2]; exact .inr (.inr .nilS)) (fun t' ht' => ?_)
    refine Stk.gen (fun t H n => t 2 = .ssl (encs c97 ([] : (List api_Term))) ([] : (List api_Term)).length false) (by simp [ht', f2]) ?_
    clear f2 ht' t'
    rintro t H n f2
    refine Stk.run 1 (fun t H n => t 2 = .ssl (encs c97 ([] : (List api_Term))) ([] : (List api_Term)).length false ∧ t 3 = .sc (.int .i64 17)) (fun J hJ => ?_) ?_
    · simp [-splice, f2]
      exact hJ _ _ _ ⟨by simp [f2], by simp [-splice, f2]⟩
    clear f2
    rintro t H n ⟨f2, f3⟩
    refine Stk.on ?_
    refine Stk.rt ?_
    have hq := Option.some.inj h; subst hq
    exact (hr _ _ _ (.tup [.ssl (encs c97 ([] : (List api_Term))) ([] : (List api_Term)).length false, .sc (.int .i64 17)]) ([]) (by simp [f2, f3]) (.inr (.inr (.tup (.cons (.free (freeL_encs fr97 _)) (.cons (.free (rfl)) (.nil))))))).1
  · have h := cF hb2 h
    refine Stk.sk ?_
    refine Stk.sq ?_
    refine Stk.rg ?_
    refine Stk.run 3 (fun t H n => t 2 = .ssl (encs c97 a0) a0.length false ∧ t 3 = .sc (.int .i64 0)) (fun J hJ => ?_) ?_
    · simp [-splice, f0, f6]
      exact hJ _ _ _ ⟨by simp [-splice, f0, f6], by simp [-splice, f0, f6]⟩
    clear f0 f6
    rintro t H n ⟨f2, f3⟩
    refine Stk.on ?_
    refine Stk.rt ?_
    have hq := Option.some.inj h; subst hq
    exact (hr _ _ _ (.tup [.ssl (encs c97 a0) a0.length false, .sc (.int .i64 0)]) ([]) (by simp [f2, f3]) (.inr (.inr (.tup (.cons (.free (freeL_encs fr97 _)) (.cons (.free (rfl)) (.nil))))))).1
theorem ok_poly_Add (F : Nat) (a0 : (List api_Term)) (a1 : (List api_Term)) (r : ((List api_Term) × Int)) (h : poly_Add F a0 a1 = some r) : RunF Try.prog T.T 20 [.ssl (encs c97 a0) a0.length false, .ssl (encs c97 a1) a1.length false] (.tup [.ssl (encs c97 r.1) r.1.length false, .sc (.int .i64 r.2)]) := by
  rw [poly_Add] at h
  refine RunF.z Try.func20 rfl rfl rfl rfl rfl (fun C hr => ?_)
  refine Stk.gen (fun t H n => t 0 = .ssl (encs c97 a0) a0.length false ∧ t 1 = .ssl (encs c97 a1) a1.length false) ⟨by simp, by simp⟩ ?_
  rintro t H n ⟨f0, f1⟩
  refine Stk.sq ?_
  refine Stk.rg ?_
  refine Stk.run 1 (fun t H n => t 0 = .ssl (encs c97 a0) a0.length false ∧ t 1 = .ssl (encs c97 a1) a1.length false) (fun J hJ => ?_) ?_
  · simp [-splice, f0, f1]
    exact hJ _ _ _ ⟨by simp [f0], by simp [f1]⟩
  clear f0 f1
  rintro t H n ⟨f0, f1⟩
  refine Stk.run 1 (fun t H n => t 0 = .ssl (encs c97 a0) a0.length false ∧ t 1 = .ssl (encs c97 a1) a1.length false) (fun J hJ => ?_) ?_
  · simp [-splice, f0, f1]
    exact hJ _ _ _ ⟨by simp [f0], by simp [f1]⟩
  clear f0 f1
  rintro t H n ⟨f0, f1⟩
  refine Stk.on ?_
  refine Stk.sq ?_
  refine Stk.rg ?_
  refine Stk.run 2 (fun t H n => t 6 = .ssl (encs c97 a0) a0.length false ∧ t 7 = .ssl (encs c97 a1) a1.length false) (fun J hJ => ?_) ?_
  · simp [-splice, f0, f1]
    exact hJ _ _ _ ⟨by simp [-splice, f0, f1], by simp [-splice, f0, f1]⟩
  clear f0 f1
  rintro t H n ⟨f6, f7⟩
  obtain ⟨x1, hx1, h⟩ := bnd h
  refine Stk.cv (g := 62) (args := [.ssl (encs c97 a0) a0.length false, .ssl (encs c97 a1) a1.length false, .fn (.func 63) [] [], .fn (.func 64) [] []]) (args' := [.ssl (encs c97 a0) a0.length false, .ssl (encs c97 a1) a1.length false, .fn (.func 63) [] [], .fn (.func 64) [] []]) (v := .ssl (encs c97 x1) x1.length false) [] (ok_poly_merged_api_Term F _ _ _ 63 [] [] ⟨rfl, by simp [freeL, free]⟩ (fun y0 y1 r h => ok_poly_order F y0 y1 r h) _ 64 [] [] ⟨rfl, by simp [freeL, free]⟩ (fun y0 y1 r h => ok_poly_added F y0 y1 r h) _ hx1) (by simp [f6, f7]) rfl rfl (by simp [f6, f7]) (.cons (.free (freeL_encs fr97 _)) (.cons (.free (freeL_encs fr97 _)) (.cons (.fn .nil (.nil)) (.cons (.fn .nil (.nil)) (.nil))))) (.inl ⟨rfl, freeL_encs fr97 _⟩) (fun t' ht' => ?_)
  refine Stk.gen (fun t H n => t 8 = .ssl (encs c97 x1) x1.length false) (by simp [ht']) ?_
  clear f6 f7 ht' t'
  rintro t H n f8
  obtain ⟨x2, hx2, h⟩ := bnd h
  refine Stk.cv (g := 61) (args := [.ssl (encs c97 x1) x1.length false]) (args' := [.ssl (encs c97 x1) x1.length false]) (v := .tup [.ssl (encs c97 x2.1) x2.1.length false, .sc (.int .i64 x2.2)]) [] (ok_poly_checked F _ _ hx2) (by simp [f8]) rfl rfl (by simp [f8]) (.cons (.free (freeL_encs fr97 _)) (.nil)) (.inl ⟨rfl, by simp [free, freeL, freeL_encs fr97]⟩) (fun t' ht' => ?_)
  refine Stk.gen (fun t H n => t 9 = .tup [.ssl (encs c97 x2.1) x2.1.length false, .sc (.int .i64 x2.2)]) (by simp [ht']) ?_
  clear f8 ht' t'
  rintro t H n f9
  refine Stk.run 4 (fun t H n => t 4 = .ssl (encs c97 x2.1) x2.1.length false ∧ t 5 = .sc (.int .i64 x2.2)) (fun J hJ => ?_) ?_
  · simp [-splice, f9]
    exact hJ _ _ _ ⟨by simp [-splice, f9], by simp [-splice, f9]⟩
  clear f9
  rintro t H n ⟨f4, f5⟩
  refine Stk.on ?_
  refine Stk.rt ?_
  have hq := Option.some.inj h; subst hq
  exact (hr _ _ _ (.tup [.ssl (encs c97 x2.1) x2.1.length false, .sc (.int .i64 x2.2)]) ([]) (by simp [f4, f5]) (.inr (.inr (.tup (.cons (.free (freeL_encs fr97 _)) (.cons (.free (rfl)) (.nil))))))).1
end Go.Proofs.Ytfbkgjmpadknfaa.M
