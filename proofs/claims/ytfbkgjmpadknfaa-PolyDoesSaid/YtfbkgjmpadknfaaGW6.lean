/-
  The functions come to them.
-/
import Derived.Test.YtfbkgjmpadknfaaGM
import Derived.Test.YtfbkgjmpadknfaaGW0
import Derived.Test.YtfbkgjmpadknfaaGW1
namespace Go.Proofs.Ytfbkgjmpadknfaa.M
open Go.Proofs.YtfbkgjmpadknfaaW.Ah Go.Proofs.Ytfbkgjmpadknfaa
set_option linter.unusedVariables false
set_option linter.unusedSimpArgs false
set_option maxRecDepth 8000
attribute [local simp] T.t2 T.t23 T.t36 T.t37 T.t97 List.range List.range.loop
attribute [-simp] appendAV fillAV
theorem ok_poly_greater (F : Nat) (a0 : api_Term) (a1 : api_Term) (r : api_Term) (h : poly_greater F a0 a1 = some r) : RunF Try.prog T.T 67 [.agg (c97 a0), .agg (c97 a1)] (.agg (c97 r)) := by
  rw [poly_greater] at h
  refine RunF.z Try.func67 rfl rfl rfl rfl rfl (fun C hr => ?_)
  refine Stk.gen (fun t H n => t 0 = .agg (c97 a0) ∧ t 1 = .agg (c97 a1)) ⟨by simp, by simp⟩ ?_
  rintro t H n ⟨f0, f1⟩
  refine Stk.sq ?_
  refine Stk.rg ?_
  refine Stk.om (mop_box T.t97 (cs := c97 a0) (by show partOk (t 0) = true; rw [f0]; rfl) (by show cellsOf (t 0) = _; rw [f0]; rfl)) (by simp [f0, f1]) rfl (fun t' ht' => ?_)
  refine Stk.gen (fun t H n => ∃ b1, t 1 = .agg (c97 a1) ∧ t 2 = .own b1 0 ∧ H b1 = some (.cells (c97 a0) 97) ∧ b1 < n) ⟨n, by simp [ht', f1], by simp [ht'], upd_same _ _ _, Nat.lt_succ_self _⟩ ?_
  clear f0 f1 ht' t'
  rintro t H n ⟨b1, f1, f2, b_b1, l_b1⟩
  refine Stk.om (mop_box T.t97 (cs := c97 a1) (by show partOk (t 1) = true; rw [f1]; rfl) (by show cellsOf (t 1) = _; rw [f1]; rfl)) (by simp [f1, f2]) rfl (fun t' ht' => ?_)
  refine Stk.gen (fun t H n => ∃ b2, t 2 = .own b1 0 ∧ t 3 = .own b2 0 ∧ H b1 = some (.cells (c97 a0) 97) ∧ b1 < n ∧ H b2 = some (.cells (c97 a1) 97) ∧ b2 < n ∧ b1 ≠ b2) ⟨n, by simp [ht', f2], by simp [ht'], (upd_ne _ _ (Nat.ne_of_lt l_b1)).trans b_b1, Nat.lt_succ_of_lt l_b1, upd_same _ _ _, Nat.lt_succ_self _, Nat.ne_of_lt l_b1⟩ ?_
  clear f1 f2 b_b1 l_b1 ht' t'
  rintro t H n ⟨b2, f2, f3, b_b1, l_b1, b_b2, l_b2, d_b1_b2⟩
  refine Stk.om (mop_alloc T.t97 (cs := c97 (api_Term.mk (Arr.rep 12 0) 0)) rfl) (by simp [f2, f3]) rfl (fun t' ht' => ?_)
  refine Stk.gen (fun t H n => ∃ b3, t 2 = .own b1 0 ∧ t 3 = .own b2 0 ∧ t 4 = .own b3 0 ∧ H b1 = some (.cells (c97 a0) 97) ∧ b1 < n ∧ H b2 = some (.cells (c97 a1) 97) ∧ b2 < n ∧ H b3 = some (.cells (c97 (api_Term.mk (Arr.rep 12 0) 0)) 97) ∧ b3 < n ∧ b1 ≠ b2 ∧ b1 ≠ b3 ∧ b2 ≠ b3) ⟨n, by simp [ht', f2], by simp [ht', f3], by simp [ht'], (upd_ne _ _ (Nat.ne_of_lt l_b1)).trans b_b1, Nat.lt_succ_of_lt l_b1, (upd_ne _ _ (Nat.ne_of_lt l_b2)).trans b_b2, Nat.lt_succ_of_lt l_b2, upd_same _ _ _, Nat.lt_succ_self _, d_b1_b2, Nat.ne_of_lt l_b1, Nat.ne_of_lt l_b2⟩ ?_
  clear f2 f3 b_b1 l_b1 b_b2 l_b2 d_b1_b2 ht' t'
  rintro t H n ⟨b3, f2, f3, f4, b_b1, l_b1, b_b2, l_b2, b_b3, l_b3, d_b1_b2, d_b1_b3, d_b2_b3⟩
  refine Stk.on ?_
  refine Stk.sq ?_
  refine Stk.rg ?_
  refine Stk.run 6 (fun t H n => t 2 = .own b1 0 ∧ t 4 = .own b3 0 ∧ t 9 = .sc (.int .i64 (if a0.Coef < a1.Coef then a1.Coef else a0.Coef)) ∧ t 10 = .own b1 12 ∧ H b1 = some (.cells (c97 a0) 97) ∧ b1 < n ∧ H b3 = some (.cells (c97 (api_Term.mk (Arr.rep 12 0) 0)) 97) ∧ b3 < n ∧ b1 ≠ b3) (fun J hJ => ?_) ?_
  · simp [-splice, f2, f3, f4, b_b1, b_b2, b_b3, ld_97_12_2]
    exact hJ _ _ _ ⟨by simp [f2], by simp [f4], by simp [-splice, f2, f3, f4, b_b1, b_b2, b_b3, ld_97_12_2], by simp [-splice, f2, f3, f4, b_b1, b_b2, b_b3, ld_97_12_2], b_b1, l_b1, b_b3, l_b3, d_b1_b3⟩
  clear f2 f3 f4 b_b1 l_b1 b_b2 l_b2 b_b3 l_b3 d_b1_b2 d_b1_b3 d_b2_b3
  rintro t H n ⟨f2, f4, f9, f10, b_b1, l_b1, b_b3, l_b3, d_b1_b3⟩
  refine Stk.om (mop_store (z := 1) rfl f10 b_b1 f9 rfl (by rw [len97]; decide) rfl (st_97_12_2 _ _)) (by simp [f2, f4, f9, f10]) rfl (fun t' ht' => ?_)
  refine Stk.gen (fun t H n => t 2 = .own b1 0 ∧ t 4 = .own b3 0 ∧ H b1 = some (.cells (c97 ({ a0 with Coef := (if a0.Coef < a1.Coef then a1.Coef else a0.Coef) })) 97) ∧ b1 < n ∧ H b3 = some (.cells (c97 (api_Term.mk (Arr.rep 12 0) 0)) 97) ∧ b3 < n ∧ b1 ≠ b3) ⟨by simp [ht', f2], by simp [ht', f4], upd_same _ _ _, l_b1, (upd_ne _ _ (Ne.symm d_b1_b3)).trans b_b3, l_b3, d_b1_b3⟩ ?_
  clear f2 f4 f9 f10 b_b1 l_b1 b_b3 l_b3 d_b1_b3 ht' t'
  rintro t H n ⟨f2, f4, b_b1, l_b1, b_b3, l_b3, d_b1_b3⟩
  refine Stk.on ?_
  refine Stk.sq ?_
  refine Stk.rg ?_
  refine Stk.run 1 (fun t H n => t 4 = .own b3 0 ∧ t 11 = .agg (c97 ({ a0 with Coef := (if a0.Coef < a1.Coef then a1.Coef else a0.Coef) })) ∧ H b3 = some (.cells (c97 (api_Term.mk (Arr.rep 12 0) 0)) 97) ∧ b3 < n) (fun J hJ => ?_) ?_
  · simp [-splice, f2, f4, b_b1, b_b3, ld_97_0_97]
    exact hJ _ _ _ ⟨by simp [f4], by simp [-splice, f2, f4, b_b1, b_b3, ld_97_0_97], b_b3, l_b3⟩
  clear f2 f4 b_b1 l_b1 b_b3 l_b3 d_b1_b3
  rintro t H n ⟨f4, f11, b_b3, l_b3⟩
  refine Stk.om (mop_store (z := 13) rfl f4 b_b3 f11 (len97 _) (by rw [len97]; decide) (ok97 _) (st_97_0_97 _ _)) (by simp [f4, f11]) rfl (fun t' ht' => ?_)
  refine Stk.gen (fun t H n => t 4 = .own b3 0 ∧ H b3 = some (.cells (c97 ({ a0 with Coef := (if a0.Coef < a1.Coef then a1.Coef else a0.Coef) })) 97) ∧ b3 < n) ⟨by simp [ht', f4], upd_same _ _ _, l_b3⟩ ?_
  clear f4 f11 b_b3 l_b3 ht' t'
  rintro t H n ⟨f4, b_b3, l_b3⟩
  refine Stk.on ?_
  refine Stk.rt ?_
  have hq := Option.some.inj h; subst hq
  exact (hr _ _ _ (.agg (c97 ({ a0 with Coef := (if a0.Coef < a1.Coef then a1.Coef else a0.Coef) }))) ([]) (by simp [f4, b_b3, ld_97_0_97]) (.inr (.inr (.free (fr97 _))))).1
theorem ok_poly_Max (F : Nat) (a0 : (List api_Term)) (a1 : (List api_Term)) (r : ((List api_Term) × Int)) (h : poly_Max F a0 a1 = some r) : RunF Try.prog T.T 24 [.ssl (encs c97 a0) a0.length false, .ssl (encs c97 a1) a1.length false] (.tup [.ssl (encs c97 r.1) r.1.length false, .sc (.int .i64 r.2)]) := by
  rw [poly_Max] at h
  refine RunF.z Try.func24 rfl rfl rfl rfl rfl (fun C hr => ?_)
  refine Stk.gen (fun t H n => t 0 = .ssl (encs c97 a0) a0.length false ∧ t 1 = .ssl (encs c97 a1) a1.length false) ⟨by simp, by simp⟩ ?_
  rintro t H n ⟨f0, f1⟩
  refine Stk.sq ?_
  refine Stk.rg ?_
  refine Stk.run 1 (fun t H n => t 0 = .ssl (encs c97 a0) a0.length false ∧ t 1 = .ssl (encs c97 a1) a1.length false) (fun J hJ => ?_) ?_
  · simp [-splice, f0, f1]
    exact hJ _ _ _ ⟨by simp [f0], by simp [f1]⟩
  clear f0 f1
  rintro t H n ⟨f0, f1⟩
  refine Stk.run 1 (fun t H n => t 0 = .ssl (encs c97 a0) a0.length false ∧ t 1 = .ssl (encs c97 a1) a1.length false) (fun J hJ => ?_) ?_
  · simp [-splice, f0, f1]
    exact hJ _ _ _ ⟨by simp [f0], by simp [f1]⟩
  clear f0 f1
  rintro t H n ⟨f0, f1⟩
  refine Stk.on ?_
  refine Stk.sq ?_
  refine Stk.rg ?_
  refine Stk.run 2 (fun t H n => t 6 = .ssl (encs c97 a0) a0.length false ∧ t 7 = .ssl (encs c97 a1) a1.length false) (fun J hJ => ?_) ?_
  · simp [-splice, f0, f1]
    exact hJ _ _ _ ⟨by simp [-splice, f0, f1], by simp [-splice, f0, f1]⟩
  clear f0 f1
  rintro t H n ⟨f6, f7⟩
  obtain ⟨x1, hx1, h⟩ := bnd h
  refine Stk.cv (g := 62) (args := [.ssl (encs c97 a0) a0.length false, .ssl (encs c97 a1) a1.length false, .fn (.func 63) [] [], .fn (.func 67) [] []]) (args' := [.ssl (encs c97 a0) a0.length false, .ssl (encs c97 a1) a1.length false, .fn (.func 63) [] [], .fn (.func 67) [] []]) (v := .ssl (encs c97 x1) x1.length false) [] (ok_poly_merged_api_Term F _ _ _ 63 [] [] ⟨rfl, by simp [freeL, free]⟩ (fun y0 y1 r h => ok_poly_order F y0 y1 r h) _ 67 [] [] ⟨rfl, by simp [freeL, free]⟩ (fun y0 y1 r h => ok_poly_greater F y0 y1 r h) _ hx1) (by simp [f6, f7]) rfl rfl (by simp [f6, f7]) (.cons (.free (freeL_encs fr97 _)) (.cons (.free (freeL_encs fr97 _)) (.cons (.fn .nil (.nil)) (.cons (.fn .nil (.nil)) (.nil))))) (.inl ⟨rfl, freeL_encs fr97 _⟩) (fun t' ht' => ?_)
  refine Stk.gen (fun t H n => t 8 = .ssl (encs c97 x1) x1.length false) (by simp [ht']) ?_
  clear f6 f7 ht' t'
  rintro t H n f8
  obtain ⟨x2, hx2, h⟩ := bnd h
  refine Stk.cv (g := 61) (args := [.ssl (encs c97 x1) x1.length false]) (args' := [.ssl (encs c97 x1) x1.length false]) (v := .tup [.ssl (encs c97 x2.1) x2.1.length false, .sc (.int .i64 x2.2)]) [] (ok_poly_checked F _ _ hx2) (by simp [f8]) rfl rfl (by simp [f8]) (.cons (.free (freeL_encs fr97 _)) (.nil)) (.inl ⟨rfl, by simp [free, freeL, freeL_encs fr97]⟩) (fun t' ht' => ?_)
  refine Stk.gen (fun t H n => t 9 = .tup [.ssl (encs c97 x2.1) x2.1.length false, .sc (.int .i64 x2.2)]) (by simp [ht']) ?_
  clear f8 ht' t'
  rintro t H n f9
  refine Stk.run 4 (fun t H n => t 4 = .ssl (encs c97 x2.1) x2.1.length false ∧ t 5 = .sc (.int .i64 x2.2)) (fun J hJ => ?_) ?_
  · simp [-splice, f9]
    exact hJ _ _ _ ⟨by simp [-splice, f9], by simp [-splice, f9]⟩
  clear f9
  rintro t H n ⟨f4, f5⟩
  refine Stk.on ?_
  refine Stk.rt ?_
  have hq := Option.some.inj h; subst hq
  exact (hr _ _ _ (.tup [.ssl (encs c97 x2.1) x2.1.length false, .sc (.int .i64 x2.2)]) ([]) (by simp [f4, f5]) (.inr (.inr (.tup (.cons (.free (freeL_encs fr97 _)) (.cons (.free (rfl)) (.nil))))))).1
end Go.Proofs.Ytfbkgjmpadknfaa.M
