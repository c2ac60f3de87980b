/-
  The functions come to them.
-/
import Derived.Test.YtfflojbgikfbmaaHtM
import Derived.Test.YtfflojbgikfbmaaHtW0
import Derived.Test.YtfflojbgikfbmaaHtW1
import Derived.Test.YtfflojbgikfbmaaHtW2
namespace Go.Proofs.Ytfflojbgikfbmaa.M
open Go.Proofs.YtfflojbgikfbmaaW.Ah Go.Proofs.Ytfflojbgikfbmaa
set_option linter.unusedVariables false
set_option linter.unusedSimpArgs false
set_option maxRecDepth 8000
attribute [local simp] T.t3 T.t4 T.t34 T.t35 T.t39 T.t40 T.t93 List.range List.range.loop
attribute [-simp] appendAV fillAV
theorem ok_L16_HeapTells (F : Nat) (a0 : api_Head) (a1 : Int) (a2 : (List Int)) (a3 : api_Heap) (r : Bool) (h : L16_HeapTells F a0 a1 a2 a3 = some r) : RunF Try.prog T.T 10 [.agg (c34 a0), .sc (.int .u64 a1), .ssl (encs c5 a2) a2.length false, .agg (c93 a3)] (.sc (.bool r)) := by
  rw [L16_HeapTells] at h
  refine RunF.z Try.func10 rfl rfl rfl rfl rfl (fun C hr => ?_)
  refine Stk.gen (fun t H n => t 0 = .agg (c34 a0) ∧ t 1 = .sc (.int .u64 a1) ∧ t 2 = .ssl (encs c5 a2) a2.length false ∧ t 3 = .agg (c93 a3)) ⟨by simp, by simp, by simp, by simp⟩ ?_
  rintro t H n ⟨f0, f1, f2, f3⟩
  refine Stk.sq ?_
  refine Stk.rg ?_
  refine Stk.om (mop_box T.t34 (cs := c34 a0) (by show partOk (t 0) = true; rw [f0]; rfl) (by show cellsOf (t 0) = _; rw [f0]; rfl)) (by simp [f0, f1, f2, f3]) rfl (fun t' ht' => ?_)
  refine Stk.gen (fun t H n => ∃ b1, t 1 = .sc (.int .u64 a1) ∧ t 2 = .ssl (encs c5 a2) a2.length false ∧ t 3 = .agg (c93 a3) ∧ t 4 = .own b1 0 ∧ H b1 = some (.cells (c34 a0) 34) ∧ b1 < n) ⟨n, by simp [ht', f1], by simp [ht', f2], by simp [ht', f3], by simp [ht'], upd_same _ _ _, Nat.lt_succ_self _⟩ ?_
  clear f0 f1 f2 f3 ht' t'
  rintro t H n ⟨b1, f1, f2, f3, f4, b_b1, l_b1⟩
  refine Stk.om (mop_box T.t93 (cs := c93 a3) (by show partOk (t 3) = true; rw [f3]; rfl) (by show cellsOf (t 3) = _; rw [f3]; rfl)) (by simp [f1, f2, f3, f4]) rfl (fun t' ht' => ?_)
  refine Stk.gen (fun t H n => ∃ b2, t 1 = .sc (.int .u64 a1) ∧ t 2 = .ssl (encs c5 a2) a2.length false ∧ t 4 = .own b1 0 ∧ t 7 = .own b2 0 ∧ H b1 = some (.cells (c34 a0) 34) ∧ b1 < n ∧ H b2 = some (.cells (c93 a3) 93) ∧ b2 < n ∧ b1 ≠ b2) ⟨n, by simp [ht', f1], by simp [ht', f2], by simp [ht', f4], by simp [ht'], (upd_ne _ _ (Nat.ne_of_lt l_b1)).trans b_b1, Nat.lt_succ_of_lt l_b1, upd_same _ _ _, Nat.lt_succ_self _, Nat.ne_of_lt l_b1⟩ ?_
  clear f1 f2 f3 f4 b_b1 l_b1 ht' t'
  rintro t H n ⟨b2, f1, f2, f4, f7, b_b1, l_b1, b_b2, l_b2, d_b1_b2⟩
  refine Stk.run 1 (fun t H n => t 1 = .sc (.int .u64 a1) ∧ t 2 = .ssl (encs c5 a2) a2.length false ∧ t 4 = .own b1 0 ∧ t 7 = .own b2 0 ∧ H b1 = some (.cells (c34 a0) 34) ∧ b1 < n ∧ H b2 = some (.cells (c93 a3) 93) ∧ b2 < n ∧ b1 ≠ b2) (fun J hJ => ?_) ?_
  · simp [-splice, f1, f2, f4, f7, b_b1, b_b2]
    exact hJ _ _ _ ⟨by simp [f1], by simp [f2], by simp [f4], by simp [f7], b_b1, l_b1, b_b2, l_b2, d_b1_b2⟩
  clear f1 f2 f4 f7 b_b1 l_b1 b_b2 l_b2 d_b1_b2
  rintro t H n ⟨f1, f2, f4, f7, b_b1, l_b1, b_b2, l_b2, d_b1_b2⟩
  refine Stk.on ?_
  refine Stk.sq ?_
  refine Stk.sq ?_
  refine Stk.rg ?_
  refine Stk.run 4 (fun t H n => t 1 = .sc (.int .u64 a1) ∧ t 2 = .ssl (encs c5 a2) a2.length false ∧ t 4 = .own b1 0 ∧ t 7 = .own b2 0 ∧ t 23 = .sc (.bool (decide (300 < (a2.length : Int)))) ∧ H b1 = some (.cells (c34 a0) 34) ∧ b1 < n ∧ H b2 = some (.cells (c93 a3) 93) ∧ b2 < n ∧ b1 ≠ b2) (fun J hJ => ?_) ?_
  · simp [-splice, f1, f2, f4, f7, b_b1, b_b2]
    exact hJ _ _ _ ⟨by simp [f1], by simp [f2], by simp [f4], by simp [f7], by simp [-splice, f1, f2, f4, f7, b_b1, b_b2], b_b1, l_b1, b_b2, l_b2, d_b1_b2⟩
  clear f1 f2 f4 f7 b_b1 l_b1 b_b2 l_b2 d_b1_b2
  rintro t H n ⟨f1, f2, f4, f7, f23, b_b1, l_b1, b_b2, l_b2, d_b1_b2⟩
  obtain ⟨K1, hK1, h⟩ := jnd h
  refine Stk.jo 4 (fun t H n => ∃ v3 : Bool, K1 v3 = some r ∧ t 1 = .sc (.int .u64 a1) ∧ t 2 = .ssl (encs c5 a2) a2.length false ∧ t 4 = .own b1 0 ∧ t 7 = .own b2 0 ∧ t 27 = .sc (.bool v3) ∧ H b1 = some (.cells (c34 a0) 34) ∧ b1 < n ∧ H b2 = some (.cells (c93 a3) 93) ∧ b2 < n ∧ b1 ≠ b2) (fun J1 hJ1 => ?_) ?_
  · rcases Bool.eq_false_or_eq_true (decide (300 < (a2.length : Int))) with hb1 | hb1
    · rw [hb1] at f23
      replace h := cT hb1 h
      refine Stk.run 4 (fun t H n => t 1 = .sc (.int .u64 a1) ∧ t 2 = .ssl (encs c5 a2) a2.length false ∧ t 4 = .own b1 0 ∧ t 7 = .own b2 0 ∧ t 27 = .sc (.bool true) ∧ H b1 = some (.cells (c34 a0) 34) ∧ b1 < n ∧ H b2 = some (.cells (c93 a3) 93) ∧ b2 < n ∧ b1 ≠ b2) (fun J hJ => ?_) ?_
      · simp [-splice, f1, f2, f4, f7, f23, b_b1, b_b2]
        exact hJ _ _ _ ⟨by simp [f1], by simp [f2], by simp [f4], by simp [f7], by simp [-splice, f1, f2, f4, f7, f23, b_b1, b_b2], b_b1, l_b1, b_b2, l_b2, d_b1_b2⟩
      clear f1 f2 f4 f7 f23 b_b1 l_b1 b_b2 l_b2 d_b1_b2
      rintro t H n ⟨f1, f2, f4, f7, f27, b_b1, l_b1, b_b2, l_b2, d_b1_b2⟩
      refine Stk.on ?_
      exact Stk.ln 0 (by decide) (hJ1 _ _ _ ⟨true, h, f1, f2, f4, f7, f27, b_b1, l_b1, b_b2, l_b2, d_b1_b2⟩)
    · rw [hb1] at f23
      replace h := cF hb1 h
      refine Stk.run 1 (fun t H n => t 1 = .sc (.int .u64 a1) ∧ t 2 = .ssl (encs c5 a2) a2.length false ∧ t 4 = .own b1 0 ∧ t 7 = .own b2 0 ∧ t 23 = .sc (.bool false) ∧ t 24 = .agg (c93 a3) ∧ H b1 = some (.cells (c34 a0) 34) ∧ b1 < n ∧ H b2 = some (.cells (c93 a3) 93) ∧ b2 < n ∧ b1 ≠ b2) (fun J hJ => ?_) ?_
      · simp [-splice, f1, f2, f4, f7, f23, b_b1, b_b2, ld_93_0_93]
        exact hJ _ _ _ ⟨by simp [f1], by simp [f2], by simp [f4], by simp [f7], by simp [f23], by simp [-splice, f1, f2, f4, f7, f23, b_b1, b_b2, ld_93_0_93], b_b1, l_b1, b_b2, l_b2, d_b1_b2⟩
      clear f1 f2 f4 f7 f23 b_b1 l_b1 b_b2 l_b2 d_b1_b2
      rintro t H n ⟨f1, f2, f4, f7, f23, f24, b_b1, l_b1, b_b2, l_b2, d_b1_b2⟩
      obtain ⟨x4, hx4, h⟩ := bnd h
      refine Stk.cv (g := 54) (args := [.agg (c93 a3)]) (args' := [.agg (c93 a3)]) (v := .sc (.bool x4)) [] (ok_L16_tiny F _ _ hx4) (by simp [f1, f2, f4, f7, f23, f24]) rfl rfl (by simp [f1, f2, f4, f7, f23, f24]) (.cons (.free (fr93 _)) (.nil)) (.inl ⟨rfl, rfl⟩) (fun t' ht' => ?_)
      refine Stk.gen (fun t H n => t 1 = .sc (.int .u64 a1) ∧ t 2 = .ssl (encs c5 a2) a2.length false ∧ t 4 = .own b1 0 ∧ t 7 = .own b2 0 ∧ t 23 = .sc (.bool false) ∧ t 25 = .sc (.bool x4) ∧ H b1 = some (.cells (c34 a0) 34) ∧ b1 < n ∧ H b2 = some (.cells (c93 a3) 93) ∧ b2 < n ∧ b1 ≠ b2) ⟨by simp [ht', f1], by simp [ht', f2], by simp [ht', f4], by simp [ht', f7], by simp [ht', f23], by simp [ht'], b_b1, l_b1, b_b2, l_b2, d_b1_b2⟩ ?_
      clear f1 f2 f4 f7 f23 f24 b_b1 l_b1 b_b2 l_b2 d_b1_b2 ht' t'
      rintro t H n ⟨f1, f2, f4, f7, f23, f25, b_b1, l_b1, b_b2, l_b2, d_b1_b2⟩
      refine Stk.run 2 (fun t H n => t 1 = .sc (.int .u64 a1) ∧ t 2 = .ssl (encs c5 a2) a2.length false ∧ t 4 = .own b1 0 ∧ t 7 = .own b2 0 ∧ t 27 = .sc (.bool (!x4)) ∧ H b1 = some (.cells (c34 a0) 34) ∧ b1 < n ∧ H b2 = some (.cells (c93 a3) 93) ∧ b2 < n ∧ b1 ≠ b2) (fun J hJ => ?_) ?_
      · simp [-splice, f1, f2, f4, f7, f23, f25, b_b1, b_b2]
        exact hJ _ _ _ ⟨by simp [f1], by simp [f2], by simp [f4], by simp [f7], by simp [-splice, f1, f2, f4, f7, f23, f25, b_b1, b_b2], b_b1, l_b1, b_b2, l_b2, d_b1_b2⟩
      clear f1 f2 f4 f7 f23 f25 b_b1 l_b1 b_b2 l_b2 d_b1_b2
      rintro t H n ⟨f1, f2, f4, f7, f27, b_b1, l_b1, b_b2, l_b2, d_b1_b2⟩
      refine Stk.on ?_
      exact Stk.ln 0 (by decide) (hJ1 _ _ _ ⟨(!x4), h, f1, f2, f4, f7, f27, b_b1, l_b1, b_b2, l_b2, d_b1_b2⟩)
  clear h f1 f2 f4 f7 f23 b_b1 l_b1 b_b2 l_b2 d_b1_b2
  rintro t H n ⟨v3, h, f1, f2, f4, f7, f27, b_b1, l_b1, b_b2, l_b2, d_b1_b2⟩
  subst hK1
  refine Stk.on ?_
  refine Stk.cond v3 (by exact f27) (fun hb5 => ?_) (fun hb5 => ?_)
  · have h := cT hb5 h
    refine Stk.sq ?_
    refine Stk.rg ?_
    obtain ⟨x6, hx6, h⟩ := bnd h
    refine Stk.cv (g := 34) (args := []) (args' := []) (v := .sc (.bool x6)) [] (ok_L16_awake F  _ hx6) (by simp [f1, f2, f4, f7, f27]) rfl rfl (by simp [f1, f2, f4, f7, f27]) (.nil) (.inl ⟨rfl, rfl⟩) (fun t' ht' => ?_)
    refine Stk.gen (fun t H n => t 28 = .sc (.bool x6)) (by simp [ht']) ?_
    clear f1 f2 f4 f7 f27 b_b1 l_b1 b_b2 l_b2 d_b1_b2 ht' t'
    rintro t H n f28
    refine Stk.run 1 (fun t H n => t 8 = .sc (.bool x6)) (fun J hJ => ?_) ?_
    · simp [-splice, f28]
      exact hJ _ _ _ (by simp [-splice, f28])
    clear f28
    rintro t H n f8
    refine Stk.on ?_
    refine Stk.rt ?_
    have hq := Option.some.inj h; subst hq
    exact (hr _ _ _ (.sc (.bool x6)) ([]) (by simp [f8]) (.inr (.inr (.free (rfl))))).1
  · have h := cF hb5 h
    refine Stk.sk ?_
    refine Stk.sq ?_
    refine Stk.rg ?_
    refine Stk.run 1 (fun t H n => t 1 = .sc (.int .u64 a1) ∧ t 2 = .ssl (encs c5 a2) a2.length false ∧ t 4 = .own b1 0 ∧ t 7 = .own b2 0 ∧ t 30 = .agg (c34 a0) ∧ H b1 = some (.cells (c34 a0) 34) ∧ b1 < n ∧ H b2 = some (.cells (c93 a3) 93) ∧ b2 < n ∧ b1 ≠ b2) (fun J hJ => ?_) ?_
    · simp [-splice, f1, f2, f4, f7, f27, b_b1, b_b2, ld_34_0_34]
      exact hJ _ _ _ ⟨by simp [f1], by simp [f2], by simp [f4], by simp [f7], by simp [-splice, f1, f2, f4, f7, f27, b_b1, b_b2, ld_34_0_34], b_b1, l_b1, b_b2, l_b2, d_b1_b2⟩
    clear f1 f2 f4 f7 f27 b_b1 l_b1 b_b2 l_b2 d_b1_b2
    rintro t H n ⟨f1, f2, f4, f7, f30, b_b1, l_b1, b_b2, l_b2, d_b1_b2⟩
    obtain ⟨x7, hx7, h⟩ := bnd h
    refine Stk.cv (g := 55) (args := [.agg (c34 a0)]) (args' := [.agg (c34 a0)]) (v := .tup [.sc (.int .u64 x7.1), .sc (.bool x7.2)]) [] (ok_heap_Head F _ _ hx7) (by simp [f1, f2, f4, f7, f30]) rfl rfl (by simp [f1, f2, f4, f7, f30]) (.cons (.free (fr34 _)) (.nil)) (.inl ⟨rfl, by simp [free, freeL]⟩) (fun t' ht' => ?_)
    refine Stk.gen (fun t H n => t 1 = .sc (.int .u64 a1) ∧ t 2 = .ssl (encs c5 a2) a2.length false ∧ t 4 = .own b1 0 ∧ t 7 = .own b2 0 ∧ t 31 = .tup [.sc (.int .u64 x7.1), .sc (.bool x7.2)] ∧ H b1 = some (.cells (c34 a0) 34) ∧ b1 < n ∧ H b2 = some (.cells (c93 a3) 93) ∧ b2 < n ∧ b1 ≠ b2) ⟨by simp [ht', f1], by simp [ht', f2], by simp [ht', f4], by simp [ht', f7], by simp [ht'], b_b1, l_b1, b_b2, l_b2, d_b1_b2⟩ ?_
    clear f1 f2 f4 f7 f30 b_b1 l_b1 b_b2 l_b2 d_b1_b2 ht' t'
    rintro t H n ⟨f1, f2, f4, f7, f31, b_b1, l_b1, b_b2, l_b2, d_b1_b2⟩
    refine Stk.run 5 (fun t H n => t 1 = .sc (.int .u64 a1) ∧ t 2 = .ssl (encs c5 a2) a2.length false ∧ t 4 = .own b1 0 ∧ t 7 = .own b2 0 ∧ t 9 = .sc (.int .u64 x7.1) ∧ t 10 = .sc (.bool x7.2) ∧ H b1 = some (.cells (c34 a0) 34) ∧ b1 < n ∧ H b2 = some (.cells (c93 a3) 93) ∧ b2 < n ∧ b1 ≠ b2) (fun J hJ => ?_) ?_
    · simp [-splice, f1, f2, f4, f7, f31, b_b1, b_b2]
      exact hJ _ _ _ ⟨by simp [f1], by simp [f2], by simp [f4], by simp [f7], by simp [-splice, f1, f2, f4, f7, f31, b_b1, b_b2], by simp [-splice, f1, f2, f4, f7, f31, b_b1, b_b2], b_b1, l_b1, b_b2, l_b2, d_b1_b2⟩
    clear f1 f2 f4 f7 f31 b_b1 l_b1 b_b2 l_b2 d_b1_b2
    rintro t H n ⟨f1, f2, f4, f7, f9, f10, b_b1, l_b1, b_b2, l_b2, d_b1_b2⟩
    refine Stk.on ?_
    refine Stk.sq ?_
    refine Stk.rg ?_
    refine Stk.run 1 (fun t H n => t 1 = .sc (.int .u64 a1) ∧ t 2 = .ssl (encs c5 a2) a2.length false ∧ t 4 = .own b1 0 ∧ t 7 = .own b2 0 ∧ t 9 = .sc (.int .u64 x7.1) ∧ t 10 = .sc (.bool x7.2) ∧ t 35 = .agg (c34 a0) ∧ H b1 = some (.cells (c34 a0) 34) ∧ b1 < n ∧ H b2 = some (.cells (c93 a3) 93) ∧ b2 < n ∧ b1 ≠ b2) (fun J hJ => ?_) ?_
    · simp [-splice, f1, f2, f4, f7, f9, f10, b_b1, b_b2, ld_34_0_34]
      exact hJ _ _ _ ⟨by simp [f1], by simp [f2], by simp [f4], by simp [f7], by simp [f9], by simp [f10], by simp [-splice, f1, f2, f4, f7, f9, f10, b_b1, b_b2, ld_34_0_34], b_b1, l_b1, b_b2, l_b2, d_b1_b2⟩
    clear f1 f2 f4 f7 f9 f10 b_b1 l_b1 b_b2 l_b2 d_b1_b2
    rintro t H n ⟨f1, f2, f4, f7, f9, f10, f35, b_b1, l_b1, b_b2, l_b2, d_b1_b2⟩
    obtain ⟨x8, hx8, h⟩ := bnd h
    refine Stk.cv (g := 56) (args := [.agg (c34 a0)]) (args' := [.agg (c34 a0)]) (v := .tup [.sc (.int .u64 x8.1), .sc (.bool x8.2)]) [] (ok_R16_Head F _ _ hx8) (by simp [f1, f2, f4, f7, f9, f10, f35]) rfl rfl (by simp [f1, f2, f4, f7, f9, f10, f35]) (.cons (.free (fr34 _)) (.nil)) (.inl ⟨rfl, by simp [free, freeL]⟩) (fun t' ht' => ?_)
    refine Stk.gen (fun t H n => t 1 = .sc (.int .u64 a1) ∧ t 2 = .ssl (encs c5 a2) a2.length false ∧ t 4 = .own b1 0 ∧ t 7 = .own b2 0 ∧ t 9 = .sc (.int .u64 x7.1) ∧ t 10 = .sc (.bool x7.2) ∧ t 36 = .tup [.sc (.int .u64 x8.1), .sc (.bool x8.2)] ∧ H b1 = some (.cells (c34 a0) 34) ∧ b1 < n ∧ H b2 = some (.cells (c93 a3) 93) ∧ b2 < n ∧ b1 ≠ b2) ⟨by simp [ht', f1], by simp [ht', f2], by simp [ht', f4], by simp [ht', f7], by simp [ht', f9], by simp [ht', f10], by simp [ht'], b_b1, l_b1, b_b2, l_b2, d_b1_b2⟩ ?_
    clear f1 f2 f4 f7 f9 f10 f35 b_b1 l_b1 b_b2 l_b2 d_b1_b2 ht' t'
    rintro t H n ⟨f1, f2, f4, f7, f9, f10, f36, b_b1, l_b1, b_b2, l_b2, d_b1_b2⟩
    refine Stk.run 5 (fun t H n => t 1 = .sc (.int .u64 a1) ∧ t 2 = .ssl (encs c5 a2) a2.length false ∧ t 4 = .own b1 0 ∧ t 7 = .own b2 0 ∧ t 9 = .sc (.int .u64 x7.1) ∧ t 10 = .sc (.bool x7.2) ∧ t 11 = .sc (.int .u64 x8.1) ∧ t 12 = .sc (.bool x8.2) ∧ H b1 = some (.cells (c34 a0) 34) ∧ b1 < n ∧ H b2 = some (.cells (c93 a3) 93) ∧ b2 < n ∧ b1 ≠ b2) (fun J hJ => ?_) ?_
    · simp [-splice, f1, f2, f4, f7, f9, f10, f36, b_b1, b_b2]
      exact hJ _ _ _ ⟨by simp [f1], by simp [f2], by simp [f4], by simp [f7], by simp [f9], by simp [f10], by simp [-splice, f1, f2, f4, f7, f9, f10, f36, b_b1, b_b2], by simp [-splice, f1, f2, f4, f7, f9, f10, f36, b_b1, b_b2], b_b1, l_b1, b_b2, l_b2, d_b1_b2⟩
    clear f1 f2 f4 f7 f9 f10 f36 b_b1 l_b1 b_b2 l_b2 d_b1_b2
    rintro t H n ⟨f1, f2, f4, f7, f9, f10, f11, f12, b_b1, l_b1, b_b2, l_b2, d_b1_b2⟩
    refine Stk.on ?_
    refine Stk.sq ?_
    refine Stk.rg ?_
    refine Stk.run 1 (fun t H n => t 1 = .sc (.int .u64 a1) ∧ t 2 = .ssl (encs c5 a2) a2.length false ∧ t 4 = .own b1 0 ∧ t 7 = .own b2 0 ∧ t 9 = .sc (.int .u64 x7.1) ∧ t 10 = .sc (.bool x7.2) ∧ t 11 = .sc (.int .u64 x8.1) ∧ t 12 = .sc (.bool x8.2) ∧ t 40 = .sc (.int .u64 a1) ∧ H b1 = some (.cells (c34 a0) 34) ∧ b1 < n ∧ H b2 = some (.cells (c93 a3) 93) ∧ b2 < n ∧ b1 ≠ b2) (fun J hJ => ?_) ?_
    · simp [-splice, f1, f2, f4, f7, f9, f10, f11, f12, b_b1, b_b2]
      exact hJ _ _ _ ⟨by simp [f1], by simp [f2], by simp [f4], by simp [f7], by simp [f9], by simp [f10], by simp [f11], by simp [f12], by simp [-splice, f1, f2, f4, f7, f9, f10, f11, f12, b_b1, b_b2], b_b1, l_b1, b_b2, l_b2, d_b1_b2⟩
    clear f1 f2 f4 f7 f9 f10 f11 f12 b_b1 l_b1 b_b2 l_b2 d_b1_b2
    rintro t H n ⟨f1, f2, f4, f7, f9, f10, f11, f12, f40, b_b1, l_b1, b_b2, l_b2, d_b1_b2⟩
    obtain ⟨x9, hx9, h⟩ := bnd h
    refine Stk.cv (g := 57) (args := [.sc (.int .u64 a1)]) (args' := [.sc (.int .u64 a1)]) (v := .tup [.agg (c34 x9.1), .sc (.bool x9.2)]) [] (ok_heap_Read F _ _ hx9) (by simp [f1, f2, f4, f7, f9, f10, f11, f12, f40]) rfl rfl (by simp [f1, f2, f4, f7, f9, f10, f11, f12, f40]) (.cons (.free (rfl)) (.nil)) (.inl ⟨rfl, by simp [free, freeL, fr34]⟩) (fun t' ht' => ?_)
    refine Stk.gen (fun t H n => t 1 = .sc (.int .u64 a1) ∧ t 2 = .ssl (encs c5 a2) a2.length false ∧ t 4 = .own b1 0 ∧ t 7 = .own b2 0 ∧ t 9 = .sc (.int .u64 x7.1) ∧ t 10 = .sc (.bool x7.2) ∧ t 11 = .sc (.int .u64 x8.1) ∧ t 12 = .sc (.bool x8.2) ∧ t 41 = .tup [.agg (c34 x9.1), .sc (.bool x9.2)] ∧ H b1 = some (.cells (c34 a0) 34) ∧ b1 < n ∧ H b2 = some (.cells (c93 a3) 93) ∧ b2 < n ∧ b1 ≠ b2) ⟨by simp [ht', f1], by simp [ht', f2], by simp [ht', f4], by simp [ht', f7], by simp [ht', f9], by simp [ht', f10], by simp [ht', f11], by simp [ht', f12], by simp [ht'], b_b1, l_b1, b_b2, l_b2, d_b1_b2⟩ ?_
    clear f1 f2 f4 f7 f9 f10 f11 f12 f40 b_b1 l_b1 b_b2 l_b2 d_b1_b2 ht' t'
    rintro t H n ⟨f1, f2, f4, f7, f9, f10, f11, f12, f41, b_b1, l_b1, b_b2, l_b2, d_b1_b2⟩
    refine Stk.run 3 (fun t H n => t 1 = .sc (.int .u64 a1) ∧ t 2 = .ssl (encs c5 a2) a2.length false ∧ t 4 = .own b1 0 ∧ t 7 = .own b2 0 ∧ t 9 = .sc (.int .u64 x7.1) ∧ t 10 = .sc (.bool x7.2) ∧ t 11 = .sc (.int .u64 x8.1) ∧ t 12 = .sc (.bool x8.2) ∧ t 42 = .agg (c34 x9.1) ∧ t 43 = .sc (.bool x9.2) ∧ H b1 = some (.cells (c34 a0) 34) ∧ b1 < n ∧ H b2 = some (.cells (c93 a3) 93) ∧ b2 < n ∧ b1 ≠ b2) (fun J hJ => ?_) ?_
    · simp [-splice, f1, f2, f4, f7, f9, f10, f11, f12, f41, b_b1, b_b2]
      exact hJ _ _ _ ⟨by simp [f1], by simp [f2], by simp [f4], by simp [f7], by simp [f9], by simp [f10], by simp [f11], by simp [f12], by simp [-splice, f1, f2, f4, f7, f9, f10, f11, f12, f41, b_b1, b_b2], by simp [-splice, f1, f2, f4, f7, f9, f10, f11, f12, f41, b_b1, b_b2], b_b1, l_b1, b_b2, l_b2, d_b1_b2⟩
    clear f1 f2 f4 f7 f9 f10 f11 f12 f41 b_b1 l_b1 b_b2 l_b2 d_b1_b2
    rintro t H n ⟨f1, f2, f4, f7, f9, f10, f11, f12, f42, f43, b_b1, l_b1, b_b2, l_b2, d_b1_b2⟩
    refine Stk.om (mop_alloc T.t34 (cs := c34 (api_Head.mk 0 0 0)) rfl) (by simp [f1, f2, f4, f7, f9, f10, f11, f12, f42, f43]) rfl (fun t' ht' => ?_)
    refine Stk.gen (fun t H n => ∃ b10, t 1 = .sc (.int .u64 a1) ∧ t 2 = .ssl (encs c5 a2) a2.length false ∧ t 4 = .own b1 0 ∧ t 7 = .own b2 0 ∧ t 9 = .sc (.int .u64 x7.1) ∧ t 10 = .sc (.bool x7.2) ∧ t 11 = .sc (.int .u64 x8.1) ∧ t 12 = .sc (.bool x8.2) ∧ t 13 = .own b10 0 ∧ t 42 = .agg (c34 x9.1) ∧ t 43 = .sc (.bool x9.2) ∧ H b1 = some (.cells (c34 a0) 34) ∧ b1 < n ∧ H b2 = some (.cells (c93 a3) 93) ∧ b2 < n ∧ H b10 = some (.cells (c34 (api_Head.mk 0 0 0)) 34) ∧ b10 < n ∧ b1 ≠ b2 ∧ b1 ≠ b10 ∧ b2 ≠ b10) ⟨n, by simp [ht', f1], by simp [ht', f2], by simp [ht', f4], by simp [ht', f7], by simp [ht', f9], by simp [ht', f10], by simp [ht', f11], by simp [ht', f12], by simp [ht'], by simp [ht', f42], by simp [ht', f43], (upd_ne _ _ (Nat.ne_of_lt l_b1)).trans b_b1, Nat.lt_succ_of_lt l_b1, (upd_ne _ _ (Nat.ne_of_lt l_b2)).trans b_b2, Nat.lt_succ_of_lt l_b2, upd_same _ _ _, Nat.lt_succ_self _, d_b1_b2, Nat.ne_of_lt l_b1, Nat.ne_of_lt l_b2⟩ ?_
    clear f1 f2 f4 f7 f9 f10 f11 f12 f42 f43 b_b1 l_b1 b_b2 l_b2 d_b1_b2 ht' t'
    rintro t H n ⟨b10, f1, f2, f4, f7, f9, f10, f11, f12, f13, f42, f43, b_b1, l_b1, b_b2, l_b2, b_b10, l_b10, d_b1_b2, d_b1_b10, d_b2_b10⟩
    refine Stk.om (mop_store (z := 3) rfl f13 b_b10 f42 (len34 _) (by rw [len34]; decide) (ok34 _) (st_34_0_34 _ _)) (by simp [f1, f2, f4, f7, f9, f10, f11, f12, f13, f42, f43]) rfl (fun t' ht' => ?_)
    refine Stk.gen (fun t H n => t 1 = .sc (.int .u64 a1) ∧ t 2 = .ssl (encs c5 a2) a2.length false ∧ t 4 = .own b1 0 ∧ t 7 = .own b2 0 ∧ t 9 = .sc (.int .u64 x7.1) ∧ t 10 = .sc (.bool x7.2) ∧ t 11 = .sc (.int .u64 x8.1) ∧ t 12 = .sc (.bool x8.2) ∧ t 13 = .own b10 0 ∧ t 43 = .sc (.bool x9.2) ∧ H b1 = some (.cells (c34 a0) 34) ∧ b1 < n ∧ H b2 = some (.cells (c93 a3) 93) ∧ b2 < n ∧ H b10 = some (.cells (c34 x9.1) 34) ∧ b10 < n ∧ b1 ≠ b2 ∧ b1 ≠ b10 ∧ b2 ≠ b10) ⟨by simp [ht', f1], by simp [ht', f2], by simp [ht', f4], by simp [ht', f7], by simp [ht', f9], by simp [ht', f10], by simp [ht', f11], by simp [ht', f12], by simp [ht', f13], by simp [ht', f43], (upd_ne _ _ d_b1_b10).trans b_b1, l_b1, (upd_ne _ _ d_b2_b10).trans b_b2, l_b2, upd_same _ _ _, l_b10, d_b1_b2, d_b1_b10, d_b2_b10⟩ ?_
    clear f1 f2 f4 f7 f9 f10 f11 f12 f13 f42 f43 b_b1 l_b1 b_b2 l_b2 b_b10 l_b10 d_b1_b2 d_b1_b10 d_b2_b10 ht' t'
    rintro t H n ⟨f1, f2, f4, f7, f9, f10, f11, f12, f13, f43, b_b1, l_b1, b_b2, l_b2, b_b10, l_b10, d_b1_b2, d_b1_b10, d_b2_b10⟩
    refine Stk.run 1 (fun t H n => t 1 = .sc (.int .u64 a1) ∧ t 2 = .ssl (encs c5 a2) a2.length false ∧ t 4 = .own b1 0 ∧ t 7 = .own b2 0 ∧ t 9 = .sc (.int .u64 x7.1) ∧ t 10 = .sc (.bool x7.2) ∧ t 11 = .sc (.int .u64 x8.1) ∧ t 12 = .sc (.bool x8.2) ∧ t 13 = .own b10 0 ∧ t 14 = .sc (.bool x9.2) ∧ H b1 = some (.cells (c34 a0) 34) ∧ b1 < n ∧ H b2 = some (.cells (c93 a3) 93) ∧ b2 < n ∧ H b10 = some (.cells (c34 x9.1) 34) ∧ b10 < n ∧ b1 ≠ b2 ∧ b1 ≠ b10 ∧ b2 ≠ b10) (fun J hJ => ?_) ?_
    · simp [-splice, f1, f2, f4, f7, f9, f10, f11, f12, f13, f43, b_b1, b_b2, b_b10]
      exact hJ _ _ _ ⟨by simp [f1], by simp [f2], by simp [f4], by simp [f7], by simp [f9], by simp [f10], by simp [f11], by simp [f12], by simp [f13], by simp [-splice, f1, f2, f4, f7, f9, f10, f11, f12, f13, f43, b_b1, b_b2, b_b10], b_b1, l_b1, b_b2, l_b2, b_b10, l_b10, d_b1_b2, d_b1_b10, d_b2_b10⟩
    clear f1 f2 f4 f7 f9 f10 f11 f12 f13 f43 b_b1 l_b1 b_b2 l_b2 b_b10 l_b10 d_b1_b2 d_b1_b10 d_b2_b10
    rintro t H n ⟨f1, f2, f4, f7, f9, f10, f11, f12, f13, f14, b_b1, l_b1, b_b2, l_b2, b_b10, l_b10, d_b1_b2, d_b1_b10, d_b2_b10⟩
    refine Stk.on ?_
    refine Stk.sq ?_
    refine Stk.rg ?_
    refine Stk.run 1 (fun t H n => t 2 = .ssl (encs c5 a2) a2.length false ∧ t 4 = .own b1 0 ∧ t 7 = .own b2 0 ∧ t 9 = .sc (.int .u64 x7.1) ∧ t 10 = .sc (.bool x7.2) ∧ t 11 = .sc (.int .u64 x8.1) ∧ t 12 = .sc (.bool x8.2) ∧ t 13 = .own b10 0 ∧ t 14 = .sc (.bool x9.2) ∧ t 45 = .sc (.int .u64 a1) ∧ H b1 = some (.cells (c34 a0) 34) ∧ b1 < n ∧ H b2 = some (.cells (c93 a3) 93) ∧ b2 < n ∧ H b10 = some (.cells (c34 x9.1) 34) ∧ b10 < n ∧ b1 ≠ b2 ∧ b1 ≠ b10 ∧ b2 ≠ b10) (fun J hJ => ?_) ?_
    · simp [-splice, f1, f2, f4, f7, f9, f10, f11, f12, f13, f14, b_b1, b_b2, b_b10]
      exact hJ _ _ _ ⟨by simp [f2], by simp [f4], by simp [f7], by simp [f9], by simp [f10], by simp [f11], by simp [f12], by simp [f13], by simp [f14], by simp [-splice, f1, f2, f4, f7, f9, f10, f11, f12, f13, f14, b_b1, b_b2, b_b10], b_b1, l_b1, b_b2, l_b2, b_b10, l_b10, d_b1_b2, d_b1_b10, d_b2_b10⟩
    clear f1 f2 f4 f7 f9 f10 f11 f12 f13 f14 b_b1 l_b1 b_b2 l_b2 b_b10 l_b10 d_b1_b2 d_b1_b10 d_b2_b10
    rintro t H n ⟨f2, f4, f7, f9, f10, f11, f12, f13, f14, f45, b_b1, l_b1, b_b2, l_b2, b_b10, l_b10, d_b1_b2, d_b1_b10, d_b2_b10⟩
    obtain ⟨x11, hx11, h⟩ := bnd h
    refine Stk.cv (g := 58) (args := [.sc (.int .u64 a1)]) (args' := [.sc (.int .u64 a1)]) (v := .tup [.agg (c34 x11.1), .sc (.bool x11.2)]) [] (ok_R16_Read F _ _ hx11) (by simp [f2, f4, f7, f9, f10, f11, f12, f13, f14, f45]) rfl rfl (by simp [f2, f4, f7, f9, f10, f11, f12, f13, f14, f45]) (.cons (.free (rfl)) (.nil)) (.inl ⟨rfl, by simp [free, freeL, fr34]⟩) (fun t' ht' => ?_)
    refine Stk.gen (fun t H n => t 2 = .ssl (encs c5 a2) a2.length false ∧ t 4 = .own b1 0 ∧ t 7 = .own b2 0 ∧ t 9 = .sc (.int .u64 x7.1) ∧ t 10 = .sc (.bool x7.2) ∧ t 11 = .sc (.int .u64 x8.1) ∧ t 12 = .sc (.bool x8.2) ∧ t 13 = .own b10 0 ∧ t 14 = .sc (.bool x9.2) ∧ t 46 = .tup [.agg (c34 x11.1), .sc (.bool x11.2)] ∧ H b1 = some (.cells (c34 a0) 34) ∧ b1 < n ∧ H b2 = some (.cells (c93 a3) 93) ∧ b2 < n ∧ H b10 = some (.cells (c34 x9.1) 34) ∧ b10 < n ∧ b1 ≠ b2 ∧ b1 ≠ b10 ∧ b2 ≠ b10) ⟨by simp [ht', f2], by simp [ht', f4], by simp [ht', f7], by simp [ht', f9], by simp [ht', f10], by simp [ht', f11], by simp [ht', f12], by simp [ht', f13], by simp [ht', f14], by simp [ht'], b_b1, l_b1, b_b2, l_b2, b_b10, l_b10, d_b1_b2, d_b1_b10, d_b2_b10⟩ ?_
    clear f2 f4 f7 f9 f10 f11 f12 f13 f14 f45 b_b1 l_b1 b_b2 l_b2 b_b10 l_b10 d_b1_b2 d_b1_b10 d_b2_b10 ht' t'
    rintro t H n ⟨f2, f4, f7, f9, f10, f11, f12, f13, f14, f46, b_b1, l_b1, b_b2, l_b2, b_b10, l_b10, d_b1_b2, d_b1_b10, d_b2_b10⟩
    refine Stk.run 3 (fun t H n => t 2 = .ssl (encs c5 a2) a2.length false ∧ t 4 = .own b1 0 ∧ t 7 = .own b2 0 ∧ t 9 = .sc (.int .u64 x7.1) ∧ t 10 = .sc (.bool x7.2) ∧ t 11 = .sc (.int .u64 x8.1) ∧ t 12 = .sc (.bool x8.2) ∧ t 13 = .own b10 0 ∧ t 14 = .sc (.bool x9.2) ∧ t 47 = .agg (c34 x11.1) ∧ t 48 = .sc (.bool x11.2) ∧ H b1 = some (.cells (c34 a0) 34) ∧ b1 < n ∧ H b2 = some (.cells (c93 a3) 93) ∧ b2 < n ∧ H b10 = some (.cells (c34 x9.1) 34) ∧ b10 < n ∧ b1 ≠ b2 ∧ b1 ≠ b10 ∧ b2 ≠ b10) (fun J hJ => ?_) ?_
    · simp [-splice, f2, f4, f7, f9, f10, f11, f12, f13, f14, f46, b_b1, b_b2, b_b10]
      exact hJ _ _ _ ⟨by simp [f2], by simp [f4], by simp [f7], by simp [f9], by simp [f10], by simp [f11], by simp [f12], by simp [f13], by simp [f14], by simp [-splice, f2, f4, f7, f9, f10, f11, f12, f13, f14, f46, b_b1, b_b2, b_b10], by simp [-splice, f2, f4, f7, f9, f10, f11, f12, f13, f14, f46, b_b1, b_b2, b_b10], b_b1, l_b1, b_b2, l_b2, b_b10, l_b10, d_b1_b2, d_b1_b10, d_b2_b10⟩
    clear f2 f4 f7 f9 f10 f11 f12 f13 f14 f46 b_b1 l_b1 b_b2 l_b2 b_b10 l_b10 d_b1_b2 d_b1_b10 d_b2_b10
    rintro t H n ⟨f2, f4, f7, f9, f10, f11, f12, f13, f14, f47, f48, b_b1, l_b1, b_b2, l_b2, b_b10, l_b10, d_b1_b2, d_b1_b10, d_b2_b10⟩
    refine Stk.om (mop_alloc T.t34 (cs := c34 (api_Head.mk 0 0 0)) rfl) (by simp [f2, f4, f7, f9, f10, f11, f12, f13, f14, f47, f48]) rfl (fun t' ht' => ?_)
    refine Stk.gen (fun t H n => ∃ b12, t 2 = .ssl (encs c5 a2) a2.length false ∧ t 4 = .own b1 0 ∧ t 7 = .own b2 0 ∧ t 9 = .sc (.int .u64 x7.1) ∧ t 10 = .sc (.bool x7.2) ∧ t 11 = .sc (.int .u64 x8.1) ∧ t 12 = .sc (.bool x8.2) ∧ t 13 = .own b10 0 ∧ t 14 = .sc (.bool x9.2) ∧ t 15 = .own b12 0 ∧ t 47 = .agg (c34 x11.1) ∧ t 48 = .sc (.bool x11.2) ∧ H b1 = some (.cells (c34 a0) 34) ∧ b1 < n ∧ H b2 = some (.cells (c93 a3) 93) ∧ b2 < n ∧ H b10 = some (.cells (c34 x9.1) 34) ∧ b10 < n ∧ H b12 = some (.cells (c34 (api_Head.mk 0 0 0)) 34) ∧ b12 < n ∧ b1 ≠ b2 ∧ b1 ≠ b10 ∧ b2 ≠ b10 ∧ b1 ≠ b12 ∧ b2 ≠ b12 ∧ b10 ≠ b12) ⟨n, by simp [ht', f2], by simp [ht', f4], by simp [ht', f7], by simp [ht', f9], by simp [ht', f10], by simp [ht', f11], by simp [ht', f12], by simp [ht', f13], by simp [ht', f14], by simp [ht'], by simp [ht', f47], by simp [ht', f48], (upd_ne _ _ (Nat.ne_of_lt l_b1)).trans b_b1, Nat.lt_succ_of_lt l_b1, (upd_ne _ _ (Nat.ne_of_lt l_b2)).trans b_b2, Nat.lt_succ_of_lt l_b2, (upd_ne _ _ (Nat.ne_of_lt l_b10)).trans b_b10, Nat.lt_succ_of_lt l_b10, upd_same _ _ _, Nat.lt_succ_self _, d_b1_b2, d_b1_b10, d_b2_b10, Nat.ne_of_lt l_b1, Nat.ne_of_lt l_b2, Nat.ne_of_lt l_b10⟩ ?_
    clear f2 f4 f7 f9 f10 f11 f12 f13 f14 f47 f48 b_b1 l_b1 b_b2 l_b2 b_b10 l_b10 d_b1_b2 d_b1_b10 d_b2_b10 ht' t'
    rintro t H n ⟨b12, f2, f4, f7, f9, f10, f11, f12, f13, f14, f15, f47, f48, b_b1, l_b1, b_b2, l_b2, b_b10, l_b10, b_b12, l_b12, d_b1_b2, d_b1_b10, d_b2_b10, d_b1_b12, d_b2_b12, d_b10_b12⟩
    refine Stk.om (mop_store (z := 3) rfl f15 b_b12 f47 (len34 _) (by rw [len34]; decide) (ok34 _) (st_34_0_34 _ _)) (by simp [f2, f4, f7, f9, f10, f11, f12, f13, f14, f15, f47, f48]) rfl (fun t' ht' => ?_)
    refine Stk.gen (fun t H n => t 2 = .ssl (encs c5 a2) a2.length false ∧ t 4 = .own b1 0 ∧ t 7 = .own b2 0 ∧ t 9 = .sc (.int .u64 x7.1) ∧ t 10 = .sc (.bool x7.2) ∧ t 11 = .sc (.int .u64 x8.1) ∧ t 12 = .sc (.bool x8.2) ∧ t 13 = .own b10 0 ∧ t 14 = .sc (.bool x9.2) ∧ t 15 = .own b12 0 ∧ t 48 = .sc (.bool x11.2) ∧ H b1 = some (.cells (c34 a0) 34) ∧ b1 < n ∧ H b2 = some (.cells (c93 a3) 93) ∧ b2 < n ∧ H b10 = some (.cells (c34 x9.1) 34) ∧ b10 < n ∧ H b12 = some (.cells (c34 x11.1) 34) ∧ b12 < n ∧ b1 ≠ b2 ∧ b1 ≠ b10 ∧ b2 ≠ b10 ∧ b1 ≠ b12 ∧ b2 ≠ b12 ∧ b10 ≠ b12) ⟨by simp [ht', f2], by simp [ht', f4], by simp [ht', f7], by simp [ht', f9], by simp [ht', f10], by simp [ht', f11], by simp [ht', f12], by simp [ht', f13], by simp [ht', f14], by simp [ht', f15], by simp [ht', f48], (upd_ne _ _ d_b1_b12).trans b_b1, l_b1, (upd_ne _ _ d_b2_b12).trans b_b2, l_b2, (upd_ne _ _ d_b10_b12).trans b_b10, l_b10, upd_same _ _ _, l_b12, d_b1_b2, d_b1_b10, d_b2_b10, d_b1_b12, d_b2_b12, d_b10_b12⟩ ?_
    clear f2 f4 f7 f9 f10 f11 f12 f13 f14 f15 f47 f48 b_b1 l_b1 b_b2 l_b2 b_b10 l_b10 b_b12 l_b12 d_b1_b2 d_b1_b10 d_b2_b10 d_b1_b12 d_b2_b12 d_b10_b12 ht' t'
    rintro t H n ⟨f2, f4, f7, f9, f10, f11, f12, f13, f14, f15, f48, b_b1, l_b1, b_b2, l_b2, b_b10, l_b10, b_b12, l_b12, d_b1_b2, d_b1_b10, d_b2_b10, d_b1_b12, d_b2_b12, d_b10_b12⟩
    refine Stk.run 1 (fun t H n => t 2 = .ssl (encs c5 a2) a2.length false ∧ t 4 = .own b1 0 ∧ t 7 = .own b2 0 ∧ t 9 = .sc (.int .u64 x7.1) ∧ t 10 = .sc (.bool x7.2) ∧ t 11 = .sc (.int .u64 x8.1) ∧ t 12 = .sc (.bool x8.2) ∧ t 13 = .own b10 0 ∧ t 14 = .sc (.bool x9.2) ∧ t 15 = .own b12 0 ∧ t 16 = .sc (.bool x11.2) ∧ H b1 = some (.cells (c34 a0) 34) ∧ b1 < n ∧ H b2 = some (.cells (c93 a3) 93) ∧ b2 < n ∧ H b10 = some (.cells (c34 x9.1) 34) ∧ b10 < n ∧ H b12 = some (.cells (c34 x11.1) 34) ∧ b12 < n ∧ b1 ≠ b2 ∧ b1 ≠ b10 ∧ b2 ≠ b10 ∧ b1 ≠ b12 ∧ b2 ≠ b12 ∧ b10 ≠ b12) (fun J hJ => ?_) ?_
    · simp [-splice, f2, f4, f7, f9, f10, f11, f12, f13, f14, f15, f48, b_b1, b_b2, b_b10, b_b12]
      exact hJ _ _ _ ⟨by simp [f2], by simp [f4], by simp [f7], by simp [f9], by simp [f10], by simp [f11], by simp [f12], by simp [f13], by simp [f14], by simp [f15], by simp [-splice, f2, f4, f7, f9, f10, f11, f12, f13, f14, f15, f48, b_b1, b_b2, b_b10, b_b12], b_b1, l_b1, b_b2, l_b2, b_b10, l_b10, b_b12, l_b12, d_b1_b2, d_b1_b10, d_b2_b10, d_b1_b12, d_b2_b12, d_b10_b12⟩
    clear f2 f4 f7 f9 f10 f11 f12 f13 f14 f15 f48 b_b1 l_b1 b_b2 l_b2 b_b10 l_b10 b_b12 l_b12 d_b1_b2 d_b1_b10 d_b2_b10 d_b1_b12 d_b2_b12 d_b10_b12
    rintro t H n ⟨f2, f4, f7, f9, f10, f11, f12, f13, f14, f15, f16, b_b1, l_b1, b_b2, l_b2, b_b10, l_b10, b_b12, l_b12, d_b1_b2, d_b1_b10, d_b2_b10, d_b1_b12, d_b2_b12, d_b10_b12⟩
    refine Stk.on ?_
    refine Stk.sq ?_
    refine Stk.rg ?_
    refine Stk.run 1 (fun t H n => t 2 = .ssl (encs c5 a2) a2.length false ∧ t 4 = .own b1 0 ∧ t 7 = .own b2 0 ∧ t 9 = .sc (.int .u64 x7.1) ∧ t 10 = .sc (.bool x7.2) ∧ t 11 = .sc (.int .u64 x8.1) ∧ t 12 = .sc (.bool x8.2) ∧ t 13 = .own b10 0 ∧ t 14 = .sc (.bool x9.2) ∧ t 15 = .own b12 0 ∧ t 16 = .sc (.bool x11.2) ∧ t 49 = .ssl (encs c5 a2) a2.length false ∧ H b1 = some (.cells (c34 a0) 34) ∧ b1 < n ∧ H b2 = some (.cells (c93 a3) 93) ∧ b2 < n ∧ H b10 = some (.cells (c34 x9.1) 34) ∧ b10 < n ∧ H b12 = some (.cells (c34 x11.1) 34) ∧ b12 < n ∧ b1 ≠ b2 ∧ b1 ≠ b10 ∧ b2 ≠ b10 ∧ b1 ≠ b12 ∧ b2 ≠ b12 ∧ b10 ≠ b12) (fun J hJ => ?_) ?_
    · simp [-splice, f2, f4, f7, f9, f10, f11, f12, f13, f14, f15, f16, b_b1, b_b2, b_b10, b_b12]
      exact hJ _ _ _ ⟨by simp [f2], by simp [f4], by simp [f7], by simp [f9], by simp [f10], by simp [f11], by simp [f12], by simp [f13], by simp [f14], by simp [f15], by simp [f16], by simp [-splice, f2, f4, f7, f9, f10, f11, f12, f13, f14, f15, f16, b_b1, b_b2, b_b10, b_b12], b_b1, l_b1, b_b2, l_b2, b_b10, l_b10, b_b12, l_b12, d_b1_b2, d_b1_b10, d_b2_b10, d_b1_b12, d_b2_b12, d_b10_b12⟩
    clear f2 f4 f7 f9 f10 f11 f12 f13 f14 f15 f16 b_b1 l_b1 b_b2 l_b2 b_b10 l_b10 b_b12 l_b12 d_b1_b2 d_b1_b10 d_b2_b10 d_b1_b12 d_b2_b12 d_b10_b12
    rintro t H n ⟨f2, f4, f7, f9, f10, f11, f12, f13, f14, f15, f16, f49, b_b1, l_b1, b_b2, l_b2, b_b10, l_b10, b_b12, l_b12, d_b1_b2, d_b1_b10, d_b2_b10, d_b1_b12, d_b2_b12, d_b10_b12⟩
    obtain ⟨x13, hx13, h⟩ := bnd h
    refine Stk.cv (g := 59) (args := [.ssl (encs c5 a2) a2.length false]) (args' := [.ssl (encs c5 a2) a2.length false]) (v := .ssl (encs c40 x13) x13.length false) [] (ok_heap_Pack F _ _ hx13) (by simp [f2, f4, f7, f9, f10, f11, f12, f13, f14, f15, f16, f49]) rfl rfl (by simp [f2, f4, f7, f9, f10, f11, f12, f13, f14, f15, f16, f49]) (.cons (.free (freeL_encs fr5 _)) (.nil)) (.inl ⟨rfl, freeL_encs fr40 _⟩) (fun t' ht' => ?_)
    refine Stk.gen (fun t H n => t 2 = .ssl (encs c5 a2) a2.length false ∧ t 4 = .own b1 0 ∧ t 7 = .own b2 0 ∧ t 9 = .sc (.int .u64 x7.1) ∧ t 10 = .sc (.bool x7.2) ∧ t 11 = .sc (.int .u64 x8.1) ∧ t 12 = .sc (.bool x8.2) ∧ t 13 = .own b10 0 ∧ t 14 = .sc (.bool x9.2) ∧ t 15 = .own b12 0 ∧ t 16 = .sc (.bool x11.2) ∧ t 50 = .ssl (encs c40 x13) x13.length false ∧ H b1 = some (.cells (c34 a0) 34) ∧ b1 < n ∧ H b2 = some (.cells (c93 a3) 93) ∧ b2 < n ∧ H b10 = some (.cells (c34 x9.1) 34) ∧ b10 < n ∧ H b12 = some (.cells (c34 x11.1) 34) ∧ b12 < n ∧ b1 ≠ b2 ∧ b1 ≠ b10 ∧ b2 ≠ b10 ∧ b1 ≠ b12 ∧ b2 ≠ b12 ∧ b10 ≠ b12) ⟨by simp [ht', f2], by simp [ht', f4], by simp [ht', f7], by simp [ht', f9], by simp [ht', f10], by simp [ht', f11], by simp [ht', f12], by simp [ht', f13], by simp [ht', f14], by simp [ht', f15], by simp [ht', f16], by simp [ht'], b_b1, l_b1, b_b2, l_b2, b_b10, l_b10, b_b12, l_b12, d_b1_b2, d_b1_b10, d_b2_b10, d_b1_b12, d_b2_b12, d_b10_b12⟩ ?_
    clear f2 f4 f7 f9 f10 f11 f12 f13 f14 f15 f16 f49 b_b1 l_b1 b_b2 l_b2 b_b10 l_b10 b_b12 l_b12 d_b1_b2 d_b1_b10 d_b2_b10 d_b1_b12 d_b2_b12 d_b10_b12 ht' t'
    rintro t H n ⟨f2, f4, f7, f9, f10, f11, f12, f13, f14, f15, f16, f50, b_b1, l_b1, b_b2, l_b2, b_b10, l_b10, b_b12, l_b12, d_b1_b2, d_b1_b10, d_b2_b10, d_b1_b12, d_b2_b12, d_b10_b12⟩
    refine Stk.run 1 (fun t H n => t 4 = .own b1 0 ∧ t 7 = .own b2 0 ∧ t 9 = .sc (.int .u64 x7.1) ∧ t 10 = .sc (.bool x7.2) ∧ t 11 = .sc (.int .u64 x8.1) ∧ t 12 = .sc (.bool x8.2) ∧ t 13 = .own b10 0 ∧ t 14 = .sc (.bool x9.2) ∧ t 15 = .own b12 0 ∧ t 16 = .sc (.bool x11.2) ∧ t 50 = .ssl (encs c40 x13) x13.length false ∧ t 51 = .ssl (encs c5 a2) a2.length false ∧ H b1 = some (.cells (c34 a0) 34) ∧ b1 < n ∧ H b2 = some (.cells (c93 a3) 93) ∧ b2 < n ∧ H b10 = some (.cells (c34 x9.1) 34) ∧ b10 < n ∧ H b12 = some (.cells (c34 x11.1) 34) ∧ b12 < n ∧ b1 ≠ b2 ∧ b1 ≠ b10 ∧ b2 ≠ b10 ∧ b1 ≠ b12 ∧ b2 ≠ b12 ∧ b10 ≠ b12) (fun J hJ => ?_) ?_
    · simp [-splice, f2, f4, f7, f9, f10, f11, f12, f13, f14, f15, f16, f50, b_b1, b_b2, b_b10, b_b12]
      exact hJ _ _ _ ⟨by simp [f4], by simp [f7], by simp [f9], by simp [f10], by simp [f11], by simp [f12], by simp [f13], by simp [f14], by simp [f15], by simp [f16], by simp [f50], by simp [-splice, f2, f4, f7, f9, f10, f11, f12, f13, f14, f15, f16, f50, b_b1, b_b2, b_b10, b_b12], b_b1, l_b1, b_b2, l_b2, b_b10, l_b10, b_b12, l_b12, d_b1_b2, d_b1_b10, d_b2_b10, d_b1_b12, d_b2_b12, d_b10_b12⟩
    clear f2 f4 f7 f9 f10 f11 f12 f13 f14 f15 f16 f50 b_b1 l_b1 b_b2 l_b2 b_b10 l_b10 b_b12 l_b12 d_b1_b2 d_b1_b10 d_b2_b10 d_b1_b12 d_b2_b12 d_b10_b12
    rintro t H n ⟨f4, f7, f9, f10, f11, f12, f13, f14, f15, f16, f50, f51, b_b1, l_b1, b_b2, l_b2, b_b10, l_b10, b_b12, l_b12, d_b1_b2, d_b1_b10, d_b2_b10, d_b1_b12, d_b2_b12, d_b10_b12⟩
    obtain ⟨x14, hx14, h⟩ := bnd h
    refine Stk.cv (g := 60) (args := [.ssl (encs c5 a2) a2.length false]) (args' := [.ssl (encs c5 a2) a2.length false]) (v := .ssl (encs c40 x14) x14.length false) [] (ok_R16_Pack F _ _ hx14) (by simp [f4, f7, f9, f10, f11, f12, f13, f14, f15, f16, f50, f51]) rfl rfl (by simp [f4, f7, f9, f10, f11, f12, f13, f14, f15, f16, f50, f51]) (.cons (.free (freeL_encs fr5 _)) (.nil)) (.inl ⟨rfl, freeL_encs fr40 _⟩) (fun t' ht' => ?_)
    refine Stk.gen (fun t H n => t 4 = .own b1 0 ∧ t 7 = .own b2 0 ∧ t 9 = .sc (.int .u64 x7.1) ∧ t 10 = .sc (.bool x7.2) ∧ t 11 = .sc (.int .u64 x8.1) ∧ t 12 = .sc (.bool x8.2) ∧ t 13 = .own b10 0 ∧ t 14 = .sc (.bool x9.2) ∧ t 15 = .own b12 0 ∧ t 16 = .sc (.bool x11.2) ∧ t 50 = .ssl (encs c40 x13) x13.length false ∧ t 52 = .ssl (encs c40 x14) x14.length false ∧ H b1 = some (.cells (c34 a0) 34) ∧ b1 < n ∧ H b2 = some (.cells (c93 a3) 93) ∧ b2 < n ∧ H b10 = some (.cells (c34 x9.1) 34) ∧ b10 < n ∧ H b12 = some (.cells (c34 x11.1) 34) ∧ b12 < n ∧ b1 ≠ b2 ∧ b1 ≠ b10 ∧ b2 ≠ b10 ∧ b1 ≠ b12 ∧ b2 ≠ b12 ∧ b10 ≠ b12) ⟨by simp [ht', f4], by simp [ht', f7], by simp [ht', f9], by simp [ht', f10], by simp [ht', f11], by simp [ht', f12], by simp [ht', f13], by simp [ht', f14], by simp [ht', f15], by simp [ht', f16], by simp [ht', f50], by simp [ht'], b_b1, l_b1, b_b2, l_b2, b_b10, l_b10, b_b12, l_b12, d_b1_b2, d_b1_b10, d_b2_b10, d_b1_b12, d_b2_b12, d_b10_b12⟩ ?_
    clear f4 f7 f9 f10 f11 f12 f13 f14 f15 f16 f50 f51 b_b1 l_b1 b_b2 l_b2 b_b10 l_b10 b_b12 l_b12 d_b1_b2 d_b1_b10 d_b2_b10 d_b1_b12 d_b2_b12 d_b10_b12 ht' t'
    rintro t H n ⟨f4, f7, f9, f10, f11, f12, f13, f14, f15, f16, f50, f52, b_b1, l_b1, b_b2, l_b2, b_b10, l_b10, b_b12, l_b12, d_b1_b2, d_b1_b10, d_b2_b10, d_b1_b12, d_b2_b12, d_b10_b12⟩
    refine Stk.run 2 (fun t H n => t 4 = .own b1 0 ∧ t 7 = .own b2 0 ∧ t 9 = .sc (.int .u64 x7.1) ∧ t 10 = .sc (.bool x7.2) ∧ t 11 = .sc (.int .u64 x8.1) ∧ t 12 = .sc (.bool x8.2) ∧ t 13 = .own b10 0 ∧ t 14 = .sc (.bool x9.2) ∧ t 15 = .own b12 0 ∧ t 16 = .sc (.bool x11.2) ∧ t 17 = .ssl (encs c40 x13) x13.length false ∧ t 18 = .ssl (encs c40 x14) x14.length false ∧ H b1 = some (.cells (c34 a0) 34) ∧ b1 < n ∧ H b2 = some (.cells (c93 a3) 93) ∧ b2 < n ∧ H b10 = some (.cells (c34 x9.1) 34) ∧ b10 < n ∧ H b12 = some (.cells (c34 x11.1) 34) ∧ b12 < n ∧ b1 ≠ b2 ∧ b1 ≠ b10 ∧ b2 ≠ b10 ∧ b1 ≠ b12 ∧ b2 ≠ b12 ∧ b10 ≠ b12) (fun J hJ => ?_) ?_
    · simp [-splice, f4, f7, f9, f10, f11, f12, f13, f14, f15, f16, f50, f52, b_b1, b_b2, b_b10, b_b12]
      exact hJ _ _ _ ⟨by simp [f4], by simp [f7], by simp [f9], by simp [f10], by simp [f11], by simp [f12], by simp [f13], by simp [f14], by simp [f15], by simp [f16], by simp [-splice, f4, f7, f9, f10, f11, f12, f13, f14, f15, f16, f50, f52, b_b1, b_b2, b_b10, b_b12], by simp [-splice, f4, f7, f9, f10, f11, f12, f13, f14, f15, f16, f50, f52, b_b1, b_b2, b_b10, b_b12], b_b1, l_b1, b_b2, l_b2, b_b10, l_b10, b_b12, l_b12, d_b1_b2, d_b1_b10, d_b2_b10, d_b1_b12, d_b2_b12, d_b10_b12⟩
    clear f4 f7 f9 f10 f11 f12 f13 f14 f15 f16 f50 f52 b_b1 l_b1 b_b2 l_b2 b_b10 l_b10 b_b12 l_b12 d_b1_b2 d_b1_b10 d_b2_b10 d_b1_b12 d_b2_b12 d_b10_b12
    rintro t H n ⟨f4, f7, f9, f10, f11, f12, f13, f14, f15, f16, f17, f18, b_b1, l_b1, b_b2, l_b2, b_b10, l_b10, b_b12, l_b12, d_b1_b2, d_b1_b10, d_b2_b10, d_b1_b12, d_b2_b12, d_b10_b12⟩
    refine Stk.on ?_
    refine Stk.sq ?_
    refine Stk.sq ?_
    refine Stk.rg ?_
    refine Stk.run 5 (fun t H n => t 4 = .own b1 0 ∧ t 7 = .own b2 0 ∧ t 9 = .sc (.int .u64 x7.1) ∧ t 10 = .sc (.bool x7.2) ∧ t 11 = .sc (.int .u64 x8.1) ∧ t 12 = .sc (.bool x8.2) ∧ t 13 = .own b10 0 ∧ t 14 = .sc (.bool x9.2) ∧ t 15 = .own b12 0 ∧ t 16 = .sc (.bool x11.2) ∧ t 17 = .ssl (encs c40 x13) x13.length false ∧ t 18 = .ssl (encs c40 x14) x14.length false ∧ t 57 = .sc (.bool ((x13.length : Int) != (x14.length : Int))) ∧ H b1 = some (.cells (c34 a0) 34) ∧ b1 < n ∧ H b2 = some (.cells (c93 a3) 93) ∧ b2 < n ∧ H b10 = some (.cells (c34 x9.1) 34) ∧ b10 < n ∧ H b12 = some (.cells (c34 x11.1) 34) ∧ b12 < n ∧ b1 ≠ b2 ∧ b1 ≠ b10 ∧ b2 ≠ b10 ∧ b1 ≠ b12 ∧ b2 ≠ b12 ∧ b10 ≠ b12) (fun J hJ => ?_) ?_
    · simp [-splice, f4, f7, f9, f10, f11, f12, f13, f14, f15, f16, f17, f18, b_b1, b_b2, b_b10, b_b12]
      exact hJ _ _ _ ⟨by simp [f4], by simp [f7], by simp [f9], by simp [f10], by simp [f11], by simp [f12], by simp [f13], by simp [f14], by simp [f15], by simp [f16], by simp [f17], by simp [f18], by simp [-splice, f4, f7, f9, f10, f11, f12, f13, f14, f15, f16, f17, f18, b_b1, b_b2, b_b10, b_b12], b_b1, l_b1, b_b2, l_b2, b_b10, l_b10, b_b12, l_b12, d_b1_b2, d_b1_b10, d_b2_b10, d_b1_b12, d_b2_b12, d_b10_b12⟩
    clear f4 f7 f9 f10 f11 f12 f13 f14 f15 f16 f17 f18 b_b1 l_b1 b_b2 l_b2 b_b10 l_b10 b_b12 l_b12 d_b1_b2 d_b1_b10 d_b2_b10 d_b1_b12 d_b2_b12 d_b10_b12
    rintro t H n ⟨f4, f7, f9, f10, f11, f12, f13, f14, f15, f16, f17, f18, f57, b_b1, l_b1, b_b2, l_b2, b_b10, l_b10, b_b12, l_b12, d_b1_b2, d_b1_b10, d_b2_b10, d_b1_b12, d_b2_b12, d_b10_b12⟩
    refine Stk.on ?_
    refine Stk.cond ((x13.length : Int) != (x14.length : Int)) (by exact f57) (fun hb15 => ?_) (fun hb15 => ?_)
    · have h := cT hb15 h
      refine Stk.sq ?_
      refine Stk.rg ?_
      refine Stk.run 1 (fun t H n => t 8 = .sc (.bool false)) (fun J hJ => ?_) ?_
      · simp [-splice, f4, f7, f9, f10, f11, f12, f13, f14, f15, f16, f17, f18, f57, b_b1, b_b2, b_b10, b_b12]
        exact hJ _ _ _ (by simp [-splice, f4, f7, f9, f10, f11, f12, f13, f14, f15, f16, f17, f18, f57, b_b1, b_b2, b_b10, b_b12])
      clear f4 f7 f9 f10 f11 f12 f13 f14 f15 f16 f17 f18 f57 b_b1 l_b1 b_b2 l_b2 b_b10 l_b10 b_b12 l_b12 d_b1_b2 d_b1_b10 d_b2_b10 d_b1_b12 d_b2_b12 d_b10_b12
      rintro t H n f8
      refine Stk.on ?_
      refine Stk.rt ?_
      have hq := Option.some.inj h; subst hq
      exact (hr _ _ _ (.sc (.bool false)) ([]) (by simp [f8]) (.inr (.inr (.free (rfl))))).1
    · have h := cF hb15 h
      refine Stk.sk ?_
      refine Stk.sq ?_
      refine Stk.sq ?_
      refine Stk.rg ?_
      refine Stk.run 3 (fun t H n => t 4 = .own b1 0 ∧ t 7 = .own b2 0 ∧ t 9 = .sc (.int .u64 x7.1) ∧ t 10 = .sc (.bool x7.2) ∧ t 11 = .sc (.int .u64 x8.1) ∧ t 12 = .sc (.bool x8.2) ∧ t 13 = .own b10 0 ∧ t 14 = .sc (.bool x9.2) ∧ t 15 = .own b12 0 ∧ t 16 = .sc (.bool x11.2) ∧ t 17 = .ssl (encs c40 x13) x13.length false ∧ t 18 = .ssl (encs c40 x14) x14.length false ∧ t 59 = .sc (.int .i64 (x13.length : Int)) ∧ t 60 = .sc (.int .i64 0) ∧ H b1 = some (.cells (c34 a0) 34) ∧ b1 < n ∧ H b2 = some (.cells (c93 a3) 93) ∧ b2 < n ∧ H b10 = some (.cells (c34 x9.1) 34) ∧ b10 < n ∧ H b12 = some (.cells (c34 x11.1) 34) ∧ b12 < n ∧ b1 ≠ b2 ∧ b1 ≠ b10 ∧ b2 ≠ b10 ∧ b1 ≠ b12 ∧ b2 ≠ b12 ∧ b10 ≠ b12) (fun J hJ => ?_) ?_
      · simp [-splice, f4, f7, f9, f10, f11, f12, f13, f14, f15, f16, f17, f18, f57, b_b1, b_b2, b_b10, b_b12]
        exact hJ _ _ _ ⟨by simp [f4], by simp [f7], by simp [f9], by simp [f10], by simp [f11], by simp [f12], by simp [f13], by simp [f14], by simp [f15], by simp [f16], by simp [f17], by simp [f18], by simp [-splice, f4, f7, f9, f10, f11, f12, f13, f14, f15, f16, f17, f18, f57, b_b1, b_b2, b_b10, b_b12], by simp [-splice, f4, f7, f9, f10, f11, f12, f13, f14, f15, f16, f17, f18, f57, b_b1, b_b2, b_b10, b_b12], b_b1, l_b1, b_b2, l_b2, b_b10, l_b10, b_b12, l_b12, d_b1_b2, d_b1_b10, d_b2_b10, d_b1_b12, d_b2_b12, d_b10_b12⟩
      clear f4 f7 f9 f10 f11 f12 f13 f14 f15 f16 f17 f18 f57 b_b1 l_b1 b_b2 l_b2 b_b10 l_b10 b_b12 l_b12 d_b1_b2 d_b1_b10 d_b2_b10 d_b1_b12 d_b2_b12 d_b10_b12
      rintro t H n ⟨f4, f7, f9, f10, f11, f12, f13, f14, f15, f16, f17, f18, f59, f60, b_b1, l_b1, b_b2, l_b2, b_b10, l_b10, b_b12, l_b12, d_b1_b2, d_b1_b10, d_b2_b10, d_b1_b12, d_b2_b12, d_b10_b12⟩
      refine Stk.on ?_
      obtain ⟨K2, hK2, h⟩ := jnd h
      refine Stk.jn (fun t H n => K2 () = some r ∧ t 4 = .own b1 0 ∧ t 7 = .own b2 0 ∧ t 9 = .sc (.int .u64 x7.1) ∧ t 10 = .sc (.bool x7.2) ∧ t 11 = .sc (.int .u64 x8.1) ∧ t 12 = .sc (.bool x8.2) ∧ t 13 = .own b10 0 ∧ t 14 = .sc (.bool x9.2) ∧ t 15 = .own b12 0 ∧ t 16 = .sc (.bool x11.2) ∧ H b1 = some (.cells (c34 a0) 34) ∧ b1 < n ∧ H b2 = some (.cells (c93 a3) 93) ∧ b2 < n ∧ H b10 = some (.cells (c34 x9.1) 34) ∧ b10 < n ∧ H b12 = some (.cells (c34 x11.1) 34) ∧ b12 < n ∧ b1 ≠ b2 ∧ b1 ≠ b10 ∧ b2 ≠ b10 ∧ b1 ≠ b12 ∧ b2 ≠ b12 ∧ b10 ≠ b12) trivial (fun J2 hJ2 => ?_) ?_
      · skip
        refine Stk.bk ?_
        refine Stk.lo (fun μ t H n => ∃ v16 : Int, L16_HeapTells_L0 F x13 x14 K2 μ v16 = some r ∧ t 4 = .own b1 0 ∧ t 7 = .own b2 0 ∧ t 9 = .sc (.int .u64 x7.1) ∧ t 10 = .sc (.bool x7.2) ∧ t 11 = .sc (.int .u64 x8.1) ∧ t 12 = .sc (.bool x8.2) ∧ t 13 = .own b10 0 ∧ t 14 = .sc (.bool x9.2) ∧ t 15 = .own b12 0 ∧ t 16 = .sc (.bool x11.2) ∧ t 17 = .ssl (encs c40 x13) x13.length false ∧ t 18 = .ssl (encs c40 x14) x14.length false ∧ t 59 = .sc (.int .i64 (x13.length : Int)) ∧ t 60 = .sc (.int .i64 v16) ∧ H b1 = some (.cells (c34 a0) 34) ∧ b1 < n ∧ H b2 = some (.cells (c93 a3) 93) ∧ b2 < n ∧ H b10 = some (.cells (c34 x9.1) 34) ∧ b10 < n ∧ H b12 = some (.cells (c34 x11.1) 34) ∧ b12 < n ∧ b1 ≠ b2 ∧ b1 ≠ b10 ∧ b2 ≠ b10 ∧ b1 ≠ b12 ∧ b2 ≠ b12 ∧ b10 ≠ b12) F ⟨0, h, f4, f7, f9, f10, f11, f12, f13, f14, f15, f16, f17, f18, f59, f60, b_b1, l_b1, b_b2, l_b2, b_b10, l_b10, b_b12, l_b12, d_b1_b2, d_b1_b10, d_b2_b10, d_b1_b12, d_b2_b12, d_b10_b12⟩ ?_
        clear h f4 f7 f9 f10 f11 f12 f13 f14 f15 f16 f17 f18 f59 f60 b_b1 l_b1 b_b2 l_b2 b_b10 l_b10 b_b12 l_b12 d_b1_b2 d_b1_b10 d_b2_b10 d_b1_b12 d_b2_b12 d_b10_b12
        rintro J3 hJ3 μ t H n ⟨v16, h, f4, f7, f9, f10, f11, f12, f13, f14, f15, f16, f17, f18, f59, f60, b_b1, l_b1, b_b2, l_b2, b_b10, l_b10, b_b12, l_b12, d_b1_b2, d_b1_b10, d_b2_b10, d_b1_b12, d_b2_b12, d_b10_b12⟩
        cases μ with
        | zero => exact absurd h (by simp [L16_HeapTells_L0])
        | succ μ =>
        rw [L16_HeapTells_L0] at h
        refine Stk.sq ?_
        refine Stk.rg ?_
        refine Stk.run 1 (fun t H n => t 4 = .own b1 0 ∧ t 7 = .own b2 0 ∧ t 9 = .sc (.int .u64 x7.1) ∧ t 10 = .sc (.bool x7.2) ∧ t 11 = .sc (.int .u64 x8.1) ∧ t 12 = .sc (.bool x8.2) ∧ t 13 = .own b10 0 ∧ t 14 = .sc (.bool x9.2) ∧ t 15 = .own b12 0 ∧ t 16 = .sc (.bool x11.2) ∧ t 17 = .ssl (encs c40 x13) x13.length false ∧ t 18 = .ssl (encs c40 x14) x14.length false ∧ t 59 = .sc (.int .i64 (x13.length : Int)) ∧ t 60 = .sc (.int .i64 v16) ∧ t 61 = .sc (.bool (decide (v16 < (x13.length : Int)))) ∧ H b1 = some (.cells (c34 a0) 34) ∧ b1 < n ∧ H b2 = some (.cells (c93 a3) 93) ∧ b2 < n ∧ H b10 = some (.cells (c34 x9.1) 34) ∧ b10 < n ∧ H b12 = some (.cells (c34 x11.1) 34) ∧ b12 < n ∧ b1 ≠ b2 ∧ b1 ≠ b10 ∧ b2 ≠ b10 ∧ b1 ≠ b12 ∧ b2 ≠ b12 ∧ b10 ≠ b12) (fun J hJ => ?_) ?_
        · simp [-splice, f4, f7, f9, f10, f11, f12, f13, f14, f15, f16, f17, f18, f59, f60, b_b1, b_b2, b_b10, b_b12]
          exact hJ _ _ _ ⟨by simp [f4], by simp [f7], by simp [f9], by simp [f10], by simp [f11], by simp [f12], by simp [f13], by simp [f14], by simp [f15], by simp [f16], by simp [f17], by simp [f18], by simp [f59], by simp [f60], by simp [-splice, f4, f7, f9, f10, f11, f12, f13, f14, f15, f16, f17, f18, f59, f60, b_b1, b_b2, b_b10, b_b12], b_b1, l_b1, b_b2, l_b2, b_b10, l_b10, b_b12, l_b12, d_b1_b2, d_b1_b10, d_b2_b10, d_b1_b12, d_b2_b12, d_b10_b12⟩
        clear f4 f7 f9 f10 f11 f12 f13 f14 f15 f16 f17 f18 f59 f60 b_b1 l_b1 b_b2 l_b2 b_b10 l_b10 b_b12 l_b12 d_b1_b2 d_b1_b10 d_b2_b10 d_b1_b12 d_b2_b12 d_b10_b12
        rintro t H n ⟨f4, f7, f9, f10, f11, f12, f13, f14, f15, f16, f17, f18, f59, f60, f61, b_b1, l_b1, b_b2, l_b2, b_b10, l_b10, b_b12, l_b12, d_b1_b2, d_b1_b10, d_b2_b10, d_b1_b12, d_b2_b12, d_b10_b12⟩
        refine Stk.on ?_
        refine Stk.sq ?_
        refine Stk.cond (decide (v16 < (x13.length : Int))) (by exact f61) (fun hb18 => ?_) (fun hb18 => ?_)
        · have h := cT hb18 h
          refine Stk.sk ?_
          refine Stk.sq ?_
          refine Stk.bk ?_
          refine Stk.sq ?_
          refine Stk.rg ?_
          refine Stk.run 2 (fun t H n => t 4 = .own b1 0 ∧ t 7 = .own b2 0 ∧ t 9 = .sc (.int .u64 x7.1) ∧ t 10 = .sc (.bool x7.2) ∧ t 11 = .sc (.int .u64 x8.1) ∧ t 12 = .sc (.bool x8.2) ∧ t 13 = .own b10 0 ∧ t 14 = .sc (.bool x9.2) ∧ t 15 = .own b12 0 ∧ t 16 = .sc (.bool x11.2) ∧ t 17 = .ssl (encs c40 x13) x13.length false ∧ t 18 = .ssl (encs c40 x14) x14.length false ∧ t 19 = .sc (.int .i64 v16) ∧ t 59 = .sc (.int .i64 (x13.length : Int)) ∧ t 60 = .sc (.int .i64 v16) ∧ H b1 = some (.cells (c34 a0) 34) ∧ b1 < n ∧ H b2 = some (.cells (c93 a3) 93) ∧ b2 < n ∧ H b10 = some (.cells (c34 x9.1) 34) ∧ b10 < n ∧ H b12 = some (.cells (c34 x11.1) 34) ∧ b12 < n ∧ b1 ≠ b2 ∧ b1 ≠ b10 ∧ b2 ≠ b10 ∧ b1 ≠ b12 ∧ b2 ≠ b12 ∧ b10 ≠ b12) (fun J hJ => ?_) ?_
          · simp [-splice, f4, f7, f9, f10, f11, f12, f13, f14, f15, f16, f17, f18, f59, f60, f61, b_b1, b_b2, b_b10, b_b12]
            exact hJ _ _ _ ⟨by simp [f4], by simp [f7], by simp [f9], by simp [f10], by simp [f11], by simp [f12], by simp [f13], by simp [f14], by simp [f15], by simp [f16], by simp [f17], by simp [f18], by simp [-splice, f4, f7, f9, f10, f11, f12, f13, f14, f15, f16, f17, f18, f59, f60, f61, b_b1, b_b2, b_b10, b_b12], by simp [f59], by simp [f60], b_b1, l_b1, b_b2, l_b2, b_b10, l_b10, b_b12, l_b12, d_b1_b2, d_b1_b10, d_b2_b10, d_b1_b12, d_b2_b12, d_b10_b12⟩
          clear f4 f7 f9 f10 f11 f12 f13 f14 f15 f16 f17 f18 f59 f60 f61 b_b1 l_b1 b_b2 l_b2 b_b10 l_b10 b_b12 l_b12 d_b1_b2 d_b1_b10 d_b2_b10 d_b1_b12 d_b2_b12 d_b10_b12
          rintro t H n ⟨f4, f7, f9, f10, f11, f12, f13, f14, f15, f16, f17, f18, f19, f59, f60, b_b1, l_b1, b_b2, l_b2, b_b10, l_b10, b_b12, l_b12, d_b1_b2, d_b1_b10, d_b2_b10, d_b1_b12, d_b2_b12, d_b10_b12⟩
          refine Stk.on ?_
          refine Stk.sq ?_
          obtain ⟨n0, hn0⟩ : ∃ m, m = n := ⟨n, rfl⟩
          have ln0 : n0 ≤ n := Nat.le_of_eq hn0
          refine Stk.rgD [.rd [], .rd [], .rd [], .rd [], .rd [], .rd [], .rd [], .rd [], .rd []] none (by kernel_rfl) (by rfl) rfl (by simp [below, hn0, l_b1, hn0, l_b2, hn0, l_b10, hn0, l_b12]) rfl ?_
          obtain ⟨x19, hx19, h⟩ := bnd h
          obtain ⟨i0x19, i1x19, i2x19, _⟩ := idx_ok hx19
          have ex19_0_40 : partOf T.T 40 (encs c40 x13) (v16.toNat) = some (.sc (.int .u64 x19)) := by
              have e0 := part_elem0 (e := c40) (z := 1) (T := T.T) (ty := 40) T.t40 (by decide) (by decide) hx19 0 (by decide)
              (try simp only [Nat.mul_one, Nat.add_zero] at e0)
              exact e0.trans rfl
          obtain ⟨x20, hx20, h⟩ := bnd h
          obtain ⟨i0x20, i1x20, i2x20, _⟩ := idx_ok hx20
          have ex20_0_40 : partOf T.T 40 (encs c40 x14) (v16.toNat) = some (.sc (.int .u64 x20)) := by
              have e0 := part_elem0 (e := c40) (z := 1) (T := T.T) (ty := 40) T.t40 (by decide) (by decide) hx20 0 (by decide)
              (try simp only [Nat.mul_one, Nat.add_zero] at e0)
              exact e0.trans rfl
          refine Stk.runD 9 (fun t H n => t 4 = .own b1 0 ∧ t 7 = .own b2 0 ∧ t 9 = .sc (.int .u64 x7.1) ∧ t 10 = .sc (.bool x7.2) ∧ t 11 = .sc (.int .u64 x8.1) ∧ t 12 = .sc (.bool x8.2) ∧ t 13 = .own b10 0 ∧ t 14 = .sc (.bool x9.2) ∧ t 15 = .own b12 0 ∧ t 16 = .sc (.bool x11.2) ∧ t 17 = .ssl (encs c40 x13) x13.length false ∧ t 18 = .ssl (encs c40 x14) x14.length false ∧ t 59 = .sc (.int .i64 (x13.length : Int)) ∧ t 60 = .sc (.int .i64 v16) ∧ t 71 = .sc (.bool (x19 != x20)) ∧ H b1 = some (.cells (c34 a0) 34) ∧ b1 < n ∧ H b2 = some (.cells (c93 a3) 93) ∧ b2 < n ∧ H b10 = some (.cells (c34 x9.1) 34) ∧ b10 < n ∧ H b12 = some (.cells (c34 x11.1) 34) ∧ b12 < n ∧ b1 ≠ b2 ∧ b1 ≠ b10 ∧ b2 ≠ b10 ∧ b1 ≠ b12 ∧ b2 ≠ b12 ∧ b10 ≠ b12 ∧ n0 ≤ n) (fun J hJ => ?_) ?_
          · simp [-splice, f4, f7, f9, f10, f11, f12, f13, f14, f15, f16, f17, f18, f19, f59, f60, b_b1, b_b2, b_b10, b_b12, i0x19, i1x19, pd40, ex19_0_40, i0x20, i1x20, ex20_0_40]
            exact hJ _ _ _ ⟨by simp [f4], by simp [f7], by simp [f9], by simp [f10], by simp [f11], by simp [f12], by simp [f13], by simp [f14], by simp [f15], by simp [f16], by simp [f17], by simp [f18], by simp [f59], by simp [f60], by simp [-splice, f4, f7, f9, f10, f11, f12, f13, f14, f15, f16, f17, f18, f19, f59, f60, b_b1, b_b2, b_b10, b_b12, i0x19, i1x19, pd40, ex19_0_40, i0x20, i1x20, ex20_0_40], b_b1, l_b1, b_b2, l_b2, b_b10, l_b10, b_b12, l_b12, d_b1_b2, d_b1_b10, d_b2_b10, d_b1_b12, d_b2_b12, d_b10_b12, ln0⟩
          clear f4 f7 f9 f10 f11 f12 f13 f14 f15 f16 f17 f18 f19 f59 f60 b_b1 l_b1 b_b2 l_b2 b_b10 l_b10 b_b12 l_b12 d_b1_b2 d_b1_b10 d_b2_b10 d_b1_b12 d_b2_b12 d_b10_b12 ln0
          rintro t H n ⟨f4, f7, f9, f10, f11, f12, f13, f14, f15, f16, f17, f18, f59, f60, f71, b_b1, l_b1, b_b2, l_b2, b_b10, l_b10, b_b12, l_b12, d_b1_b2, d_b1_b10, d_b2_b10, d_b1_b12, d_b2_b12, d_b10_b12, ln0⟩
          refine Stk.onD ?_
          refine Stk.cond (x19 != x20) (by exact f71) (fun hb21 => ?_) (fun hb21 => ?_)
          · have h := cT hb21 h
            refine Stk.sq ?_
            refine Stk.rg ?_
            refine Stk.run 1 (fun t H n => t 8 = .sc (.bool false)) (fun J hJ => ?_) ?_
            · simp [-splice, f4, f7, f9, f10, f11, f12, f13, f14, f15, f16, f17, f18, f59, f60, f71, b_b1, b_b2, b_b10, b_b12]
              exact hJ _ _ _ (by simp [-splice, f4, f7, f9, f10, f11, f12, f13, f14, f15, f16, f17, f18, f59, f60, f71, b_b1, b_b2, b_b10, b_b12])
            clear f4 f7 f9 f10 f11 f12 f13 f14 f15 f16 f17 f18 f59 f60 f71 b_b1 l_b1 b_b2 l_b2 b_b10 l_b10 b_b12 l_b12 d_b1_b2 d_b1_b10 d_b2_b10 d_b1_b12 d_b2_b12 d_b10_b12 ln0
            rintro t H n f8
            refine Stk.on ?_
            refine Stk.rt ?_
            have hq := Option.some.inj h; subst hq
            exact (hr _ _ _ (.sc (.bool false)) ([]) (by simp [f8]) (.inr (.inr (.free (rfl))))).1
          · have h := cF hb21 h
            refine Stk.sk ?_
            refine Stk.bn ?_
            refine Stk.rg ?_
            refine Stk.run 2 (fun t H n => t 4 = .own b1 0 ∧ t 7 = .own b2 0 ∧ t 9 = .sc (.int .u64 x7.1) ∧ t 10 = .sc (.bool x7.2) ∧ t 11 = .sc (.int .u64 x8.1) ∧ t 12 = .sc (.bool x8.2) ∧ t 13 = .own b10 0 ∧ t 14 = .sc (.bool x9.2) ∧ t 15 = .own b12 0 ∧ t 16 = .sc (.bool x11.2) ∧ t 17 = .ssl (encs c40 x13) x13.length false ∧ t 18 = .ssl (encs c40 x14) x14.length false ∧ t 59 = .sc (.int .i64 (x13.length : Int)) ∧ t 60 = .sc (.int .i64 (IntKind.i64.wrap (v16 + 1))) ∧ H b1 = some (.cells (c34 a0) 34) ∧ b1 < n ∧ H b2 = some (.cells (c93 a3) 93) ∧ b2 < n ∧ H b10 = some (.cells (c34 x9.1) 34) ∧ b10 < n ∧ H b12 = some (.cells (c34 x11.1) 34) ∧ b12 < n ∧ b1 ≠ b2 ∧ b1 ≠ b10 ∧ b2 ≠ b10 ∧ b1 ≠ b12 ∧ b2 ≠ b12 ∧ b10 ≠ b12) (fun J hJ => ?_) ?_
            · simp [-splice, f4, f7, f9, f10, f11, f12, f13, f14, f15, f16, f17, f18, f59, f60, f71, b_b1, b_b2, b_b10, b_b12]
              exact hJ _ _ _ ⟨by simp [f4], by simp [f7], by simp [f9], by simp [f10], by simp [f11], by simp [f12], by simp [f13], by simp [f14], by simp [f15], by simp [f16], by simp [f17], by simp [f18], by simp [f59], by simp [-splice, f4, f7, f9, f10, f11, f12, f13, f14, f15, f16, f17, f18, f59, f60, f71, b_b1, b_b2, b_b10, b_b12], b_b1, l_b1, b_b2, l_b2, b_b10, l_b10, b_b12, l_b12, d_b1_b2, d_b1_b10, d_b2_b10, d_b1_b12, d_b2_b12, d_b10_b12⟩
            clear f4 f7 f9 f10 f11 f12 f13 f14 f15 f16 f17 f18 f59 f60 f71 b_b1 l_b1 b_b2 l_b2 b_b10 l_b10 b_b12 l_b12 d_b1_b2 d_b1_b10 d_b2_b10 d_b1_b12 d_b2_b12 d_b10_b12 ln0
            rintro t H n ⟨f4, f7, f9, f10, f11, f12, f13, f14, f15, f16, f17, f18, f59, f60, b_b1, l_b1, b_b2, l_b2, b_b10, l_b10, b_b12, l_b12, d_b1_b2, d_b1_b10, d_b2_b10, d_b1_b12, d_b2_b12, d_b10_b12⟩
            refine Stk.on ?_
            exact Stk.ln μ (Nat.lt_succ_self _) (hJ3 _ _ _ _ ⟨(IntKind.i64.wrap (v16 + 1)), h, f4, f7, f9, f10, f11, f12, f13, f14, f15, f16, f17, f18, f59, f60, b_b1, l_b1, b_b2, l_b2, b_b10, l_b10, b_b12, l_b12, d_b1_b2, d_b1_b10, d_b2_b10, d_b1_b12, d_b2_b12, d_b10_b12⟩)
        · have h := cF hb18 h
          refine Stk.ex rfl ?_
          exact Stk.ln 0 (by decide) (hJ2 _ _ _ ⟨h, f4, f7, f9, f10, f11, f12, f13, f14, f15, f16, b_b1, l_b1, b_b2, l_b2, b_b10, l_b10, b_b12, l_b12, d_b1_b2, d_b1_b10, d_b2_b10, d_b1_b12, d_b2_b12, d_b10_b12⟩)
      clear h f4 f7 f9 f10 f11 f12 f13 f14 f15 f16 f17 f18 f59 f60 b_b1 l_b1 b_b2 l_b2 b_b10 l_b10 b_b12 l_b12 d_b1_b2 d_b1_b10 d_b2_b10 d_b1_b12 d_b2_b12 d_b10_b12
      rintro t H n ⟨h, f4, f7, f9, f10, f11, f12, f13, f14, f15, f16, b_b1, l_b1, b_b2, l_b2, b_b10, l_b10, b_b12, l_b12, d_b1_b2, d_b1_b10, d_b2_b10, d_b1_b12, d_b2_b12, d_b10_b12⟩
      subst hK2
      refine Stk.sq ?_
      obtain ⟨n0, hn0⟩ : ∃ m, m = n := ⟨n, rfl⟩
      have ln0 : n0 ≤ n := Nat.le_of_eq hn0
      refine Stk.rgD [.rd [], .rd [], .rd [], .rd [], .rd [], .rd [], .rd [], .rd [], .rd [], .rd [b10], .rd [b12], .rd [], .rd [], .rd [], .rd [], .rd [], .rd [], .rd [], .rd [], .rd [b1], .rd [], .rd [b1], .rd [], .rd [], .rd [], .rd [], .rd [b2], .rd [], .rd [b2], .rd [], .rd [], .rd [], .rd [], .rd [], .rd [], .rd []] none (by kernel_rfl) (by rfl) rfl (by simp [below, hn0, l_b1, hn0, l_b2, hn0, l_b10, hn0, l_b12]) rfl ?_
      refine Stk.runD 4 (fun t H n => t 4 = .own b1 0 ∧ t 7 = .own b2 0 ∧ t 10 = .sc (.bool x7.2) ∧ t 12 = .sc (.bool x8.2) ∧ t 13 = .own b10 0 ∧ t 14 = .sc (.bool x9.2) ∧ t 15 = .own b12 0 ∧ t 16 = .sc (.bool x11.2) ∧ t 76 = .sc (.bool (x7.1 == x8.1)) ∧ H b1 = some (.cells (c34 a0) 34) ∧ b1 < n ∧ H b2 = some (.cells (c93 a3) 93) ∧ b2 < n ∧ H b10 = some (.cells (c34 x9.1) 34) ∧ b10 < n ∧ H b12 = some (.cells (c34 x11.1) 34) ∧ b12 < n ∧ b1 ≠ b2 ∧ b1 ≠ b10 ∧ b2 ≠ b10 ∧ b1 ≠ b12 ∧ b2 ≠ b12 ∧ b10 ≠ b12 ∧ n0 ≤ n) (fun J hJ => ?_) ?_
      · simp [-splice, f4, f7, f9, f10, f11, f12, f13, f14, f15, f16, b_b1, b_b2, b_b10, b_b12]
        exact hJ _ _ _ ⟨by simp [f4], by simp [f7], by simp [f10], by simp [f12], by simp [f13], by simp [f14], by simp [f15], by simp [f16], by simp [-splice, f4, f7, f9, f10, f11, f12, f13, f14, f15, f16, b_b1, b_b2, b_b10, b_b12], b_b1, l_b1, b_b2, l_b2, b_b10, l_b10, b_b12, l_b12, d_b1_b2, d_b1_b10, d_b2_b10, d_b1_b12, d_b2_b12, d_b10_b12, ln0⟩
      clear f4 f7 f9 f10 f11 f12 f13 f14 f15 f16 b_b1 l_b1 b_b2 l_b2 b_b10 l_b10 b_b12 l_b12 d_b1_b2 d_b1_b10 d_b2_b10 d_b1_b12 d_b2_b12 d_b10_b12 ln0
      rintro t H n ⟨f4, f7, f10, f12, f13, f14, f15, f16, f76, b_b1, l_b1, b_b2, l_b2, b_b10, l_b10, b_b12, l_b12, d_b1_b2, d_b1_b10, d_b2_b10, d_b1_b12, d_b2_b12, d_b10_b12, ln0⟩
      refine Stk.jd 4 (fun t H n => t 4 = .own b1 0 ∧ t 7 = .own b2 0 ∧ t 13 = .own b10 0 ∧ t 14 = .sc (.bool x9.2) ∧ t 15 = .own b12 0 ∧ t 16 = .sc (.bool x11.2) ∧ t 80 = .sc (.bool ((x7.1 == x8.1) && (x7.2 == x8.2))) ∧ H b1 = some (.cells (c34 a0) 34) ∧ b1 < n ∧ H b2 = some (.cells (c93 a3) 93) ∧ b2 < n ∧ H b10 = some (.cells (c34 x9.1) 34) ∧ b10 < n ∧ H b12 = some (.cells (c34 x11.1) 34) ∧ b12 < n ∧ b1 ≠ b2 ∧ b1 ≠ b10 ∧ b2 ≠ b10 ∧ b1 ≠ b12 ∧ b2 ≠ b12 ∧ b10 ≠ b12 ∧ n0 ≤ n) (fun J4 hJ4 => ?_) ?_
      · rcases Bool.eq_false_or_eq_true (x7.1 == x8.1) with hb4 | hb4
        · rw [hb4] at f76
          refine Stk.runD 4 (fun t H n => t 4 = .own b1 0 ∧ t 7 = .own b2 0 ∧ t 13 = .own b10 0 ∧ t 14 = .sc (.bool x9.2) ∧ t 15 = .own b12 0 ∧ t 16 = .sc (.bool x11.2) ∧ t 80 = .sc (.bool (x7.2 == x8.2)) ∧ H b1 = some (.cells (c34 a0) 34) ∧ b1 < n ∧ H b2 = some (.cells (c93 a3) 93) ∧ b2 < n ∧ H b10 = some (.cells (c34 x9.1) 34) ∧ b10 < n ∧ H b12 = some (.cells (c34 x11.1) 34) ∧ b12 < n ∧ b1 ≠ b2 ∧ b1 ≠ b10 ∧ b2 ≠ b10 ∧ b1 ≠ b12 ∧ b2 ≠ b12 ∧ b10 ≠ b12 ∧ n0 ≤ n) (fun J hJ => ?_) ?_
          · simp [-splice, f4, f7, f10, f12, f13, f14, f15, f16, f76, b_b1, b_b2, b_b10, b_b12, eqM4]
            exact hJ _ _ _ ⟨by simp [f4], by simp [f7], by simp [f13], by simp [f14], by simp [f15], by simp [f16], by simp [-splice, f4, f7, f10, f12, f13, f14, f15, f16, f76, b_b1, b_b2, b_b10, b_b12, eqM4], b_b1, l_b1, b_b2, l_b2, b_b10, l_b10, b_b12, l_b12, d_b1_b2, d_b1_b10, d_b2_b10, d_b1_b12, d_b2_b12, d_b10_b12, ln0⟩
          clear f4 f7 f10 f12 f13 f14 f15 f16 f76 b_b1 l_b1 b_b2 l_b2 b_b10 l_b10 b_b12 l_b12 d_b1_b2 d_b1_b10 d_b2_b10 d_b1_b12 d_b2_b12 d_b10_b12 ln0
          rintro t H n ⟨f4, f7, f13, f14, f15, f16, f80, b_b1, l_b1, b_b2, l_b2, b_b10, l_b10, b_b12, l_b12, d_b1_b2, d_b1_b10, d_b2_b10, d_b1_b12, d_b2_b12, d_b10_b12, ln0⟩
          refine Stk.onD ?_
          exact Stk.ln 0 (by decide) (hJ4 _ _ _ ⟨f4, f7, f13, f14, f15, f16, f80.trans (congrArg (fun q => AV.sc (.bool q)) (by rw [hb4]; rfl)), b_b1, l_b1, b_b2, l_b2, b_b10, l_b10, b_b12, l_b12, d_b1_b2, d_b1_b10, d_b2_b10, d_b1_b12, d_b2_b12, d_b10_b12, ln0⟩)
        · rw [hb4] at f76
          refine Stk.runD 4 (fun t H n => t 4 = .own b1 0 ∧ t 7 = .own b2 0 ∧ t 13 = .own b10 0 ∧ t 14 = .sc (.bool x9.2) ∧ t 15 = .own b12 0 ∧ t 16 = .sc (.bool x11.2) ∧ t 80 = .sc (.bool false) ∧ H b1 = some (.cells (c34 a0) 34) ∧ b1 < n ∧ H b2 = some (.cells (c93 a3) 93) ∧ b2 < n ∧ H b10 = some (.cells (c34 x9.1) 34) ∧ b10 < n ∧ H b12 = some (.cells (c34 x11.1) 34) ∧ b12 < n ∧ b1 ≠ b2 ∧ b1 ≠ b10 ∧ b2 ≠ b10 ∧ b1 ≠ b12 ∧ b2 ≠ b12 ∧ b10 ≠ b12 ∧ n0 ≤ n) (fun J hJ => ?_) ?_
          · simp [-splice, f4, f7, f10, f12, f13, f14, f15, f16, f76, b_b1, b_b2, b_b10, b_b12]
            exact hJ _ _ _ ⟨by simp [f4], by simp [f7], by simp [f13], by simp [f14], by simp [f15], by simp [f16], by simp [-splice, f4, f7, f10, f12, f13, f14, f15, f16, f76, b_b1, b_b2, b_b10, b_b12], b_b1, l_b1, b_b2, l_b2, b_b10, l_b10, b_b12, l_b12, d_b1_b2, d_b1_b10, d_b2_b10, d_b1_b12, d_b2_b12, d_b10_b12, ln0⟩
          clear f4 f7 f10 f12 f13 f14 f15 f16 f76 b_b1 l_b1 b_b2 l_b2 b_b10 l_b10 b_b12 l_b12 d_b1_b2 d_b1_b10 d_b2_b10 d_b1_b12 d_b2_b12 d_b10_b12 ln0
          rintro t H n ⟨f4, f7, f13, f14, f15, f16, f80, b_b1, l_b1, b_b2, l_b2, b_b10, l_b10, b_b12, l_b12, d_b1_b2, d_b1_b10, d_b2_b10, d_b1_b12, d_b2_b12, d_b10_b12, ln0⟩
          refine Stk.onD ?_
          exact Stk.ln 0 (by decide) (hJ4 _ _ _ ⟨f4, f7, f13, f14, f15, f16, f80.trans (congrArg (fun q => AV.sc (.bool q)) (by rw [hb4]; rfl)), b_b1, l_b1, b_b2, l_b2, b_b10, l_b10, b_b12, l_b12, d_b1_b2, d_b1_b10, d_b2_b10, d_b1_b12, d_b2_b12, d_b10_b12, ln0⟩)
      clear f4 f7 f10 f12 f13 f14 f15 f16 f76 b_b1 l_b1 b_b2 l_b2 b_b10 l_b10 b_b12 l_b12 d_b1_b2 d_b1_b10 d_b2_b10 d_b1_b12 d_b2_b12 d_b10_b12 ln0
      rintro t H n ⟨f4, f7, f13, f14, f15, f16, f80, b_b1, l_b1, b_b2, l_b2, b_b10, l_b10, b_b12, l_b12, d_b1_b2, d_b1_b10, d_b2_b10, d_b1_b12, d_b2_b12, d_b10_b12, ln0⟩
      refine Stk.runD 1 (fun t H n => t 4 = .own b1 0 ∧ t 7 = .own b2 0 ∧ t 13 = .own b10 0 ∧ t 14 = .sc (.bool x9.2) ∧ t 15 = .own b12 0 ∧ t 16 = .sc (.bool x11.2) ∧ t 81 = .sc (.bool ((x7.1 == x8.1) && (x7.2 == x8.2))) ∧ H b1 = some (.cells (c34 a0) 34) ∧ b1 < n ∧ H b2 = some (.cells (c93 a3) 93) ∧ b2 < n ∧ H b10 = some (.cells (c34 x9.1) 34) ∧ b10 < n ∧ H b12 = some (.cells (c34 x11.1) 34) ∧ b12 < n ∧ b1 ≠ b2 ∧ b1 ≠ b10 ∧ b2 ≠ b10 ∧ b1 ≠ b12 ∧ b2 ≠ b12 ∧ b10 ≠ b12 ∧ n0 ≤ n) (fun J hJ => ?_) ?_
      · simp [-splice, f4, f7, f13, f14, f15, f16, f80, b_b1, b_b2, b_b10, b_b12]
        exact hJ _ _ _ ⟨by simp [f4], by simp [f7], by simp [f13], by simp [f14], by simp [f15], by simp [f16], by simp [-splice, f4, f7, f13, f14, f15, f16, f80, b_b1, b_b2, b_b10, b_b12], b_b1, l_b1, b_b2, l_b2, b_b10, l_b10, b_b12, l_b12, d_b1_b2, d_b1_b10, d_b2_b10, d_b1_b12, d_b2_b12, d_b10_b12, ln0⟩
      clear f4 f7 f13 f14 f15 f16 f80 b_b1 l_b1 b_b2 l_b2 b_b10 l_b10 b_b12 l_b12 d_b1_b2 d_b1_b10 d_b2_b10 d_b1_b12 d_b2_b12 d_b10_b12 ln0
      rintro t H n ⟨f4, f7, f13, f14, f15, f16, f81, b_b1, l_b1, b_b2, l_b2, b_b10, l_b10, b_b12, l_b12, d_b1_b2, d_b1_b10, d_b2_b10, d_b1_b12, d_b2_b12, d_b10_b12, ln0⟩
      refine Stk.jd 4 (fun t H n => t 4 = .own b1 0 ∧ t 7 = .own b2 0 ∧ t 14 = .sc (.bool x9.2) ∧ t 16 = .sc (.bool x11.2) ∧ t 85 = .sc (.bool (((x7.1 == x8.1) && (x7.2 == x8.2)) && ((x9.1.Kind == x11.1.Kind) && ((x9.1.Tag == x11.1.Tag) && ((x9.1.Count == x11.1.Count)))))) ∧ H b1 = some (.cells (c34 a0) 34) ∧ b1 < n ∧ H b2 = some (.cells (c93 a3) 93) ∧ b2 < n ∧ b1 ≠ b2 ∧ n0 ≤ n) (fun J5 hJ5 => ?_) ?_
      · rcases Bool.eq_false_or_eq_true ((x7.1 == x8.1) && (x7.2 == x8.2)) with hb5 | hb5
        · rw [hb5] at f81
          refine Stk.runD 4 (fun t H n => t 4 = .own b1 0 ∧ t 7 = .own b2 0 ∧ t 14 = .sc (.bool x9.2) ∧ t 16 = .sc (.bool x11.2) ∧ t 85 = .sc (.bool ((x9.1.Kind == x11.1.Kind) && ((x9.1.Tag == x11.1.Tag) && ((x9.1.Count == x11.1.Count))))) ∧ H b1 = some (.cells (c34 a0) 34) ∧ b1 < n ∧ H b2 = some (.cells (c93 a3) 93) ∧ b2 < n ∧ b1 ≠ b2 ∧ n0 ≤ n) (fun J hJ => ?_) ?_
          · simp [-splice, f4, f7, f13, f14, f15, f16, f81, b_b1, b_b2, b_b10, b_b12, ld_34_0_34, eqM34]
            exact hJ _ _ _ ⟨by simp [f4], by simp [f7], by simp [f14], by simp [f16], by simp [-splice, f4, f7, f13, f14, f15, f16, f81, b_b1, b_b2, b_b10, b_b12, ld_34_0_34, eqM34], b_b1, l_b1, b_b2, l_b2, d_b1_b2, ln0⟩
          clear f4 f7 f13 f14 f15 f16 f81 b_b1 l_b1 b_b2 l_b2 b_b10 l_b10 b_b12 l_b12 d_b1_b2 d_b1_b10 d_b2_b10 d_b1_b12 d_b2_b12 d_b10_b12 ln0
          rintro t H n ⟨f4, f7, f14, f16, f85, b_b1, l_b1, b_b2, l_b2, d_b1_b2, ln0⟩
          refine Stk.onD ?_
          exact Stk.ln 0 (by decide) (hJ5 _ _ _ ⟨f4, f7, f14, f16, f85.trans (congrArg (fun q => AV.sc (.bool q)) (by rw [hb5]; rfl)), b_b1, l_b1, b_b2, l_b2, d_b1_b2, ln0⟩)
        · rw [hb5] at f81
          refine Stk.runD 4 (fun t H n => t 4 = .own b1 0 ∧ t 7 = .own b2 0 ∧ t 14 = .sc (.bool x9.2) ∧ t 16 = .sc (.bool x11.2) ∧ t 85 = .sc (.bool false) ∧ H b1 = some (.cells (c34 a0) 34) ∧ b1 < n ∧ H b2 = some (.cells (c93 a3) 93) ∧ b2 < n ∧ b1 ≠ b2 ∧ n0 ≤ n) (fun J hJ => ?_) ?_
          · simp [-splice, f4, f7, f13, f14, f15, f16, f81, b_b1, b_b2, b_b10, b_b12]
            exact hJ _ _ _ ⟨by simp [f4], by simp [f7], by simp [f14], by simp [f16], by simp [-splice, f4, f7, f13, f14, f15, f16, f81, b_b1, b_b2, b_b10, b_b12], b_b1, l_b1, b_b2, l_b2, d_b1_b2, ln0⟩
          clear f4 f7 f13 f14 f15 f16 f81 b_b1 l_b1 b_b2 l_b2 b_b10 l_b10 b_b12 l_b12 d_b1_b2 d_b1_b10 d_b2_b10 d_b1_b12 d_b2_b12 d_b10_b12 ln0
          rintro t H n ⟨f4, f7, f14, f16, f85, b_b1, l_b1, b_b2, l_b2, d_b1_b2, ln0⟩
          refine Stk.onD ?_
          exact Stk.ln 0 (by decide) (hJ5 _ _ _ ⟨f4, f7, f14, f16, f85.trans (congrArg (fun q => AV.sc (.bool q)) (by rw [hb5]; rfl)), b_b1, l_b1, b_b2, l_b2, d_b1_b2, ln0⟩)
      clear f4 f7 f13 f14 f15 f16 f81 b_b1 l_b1 b_b2 l_b2 b_b10 l_b10 b_b12 l_b12 d_b1_b2 d_b1_b10 d_b2_b10 d_b1_b12 d_b2_b12 d_b10_b12 ln0
      rintro t H n ⟨f4, f7, f14, f16, f85, b_b1, l_b1, b_b2, l_b2, d_b1_b2, ln0⟩
      refine Stk.runD 1 (fun t H n => t 4 = .own b1 0 ∧ t 7 = .own b2 0 ∧ t 14 = .sc (.bool x9.2) ∧ t 16 = .sc (.bool x11.2) ∧ t 86 = .sc (.bool (((x7.1 == x8.1) && (x7.2 == x8.2)) && ((x9.1.Kind == x11.1.Kind) && ((x9.1.Tag == x11.1.Tag) && ((x9.1.Count == x11.1.Count)))))) ∧ H b1 = some (.cells (c34 a0) 34) ∧ b1 < n ∧ H b2 = some (.cells (c93 a3) 93) ∧ b2 < n ∧ b1 ≠ b2 ∧ n0 ≤ n) (fun J hJ => ?_) ?_
      · simp [-splice, f4, f7, f14, f16, f85, b_b1, b_b2]
        exact hJ _ _ _ ⟨by simp [f4], by simp [f7], by simp [f14], by simp [f16], by simp [-splice, f4, f7, f14, f16, f85, b_b1, b_b2], b_b1, l_b1, b_b2, l_b2, d_b1_b2, ln0⟩
      clear f4 f7 f14 f16 f85 b_b1 l_b1 b_b2 l_b2 d_b1_b2 ln0
      rintro t H n ⟨f4, f7, f14, f16, f86, b_b1, l_b1, b_b2, l_b2, d_b1_b2, ln0⟩
      refine Stk.jd 4 (fun t H n => t 4 = .own b1 0 ∧ t 7 = .own b2 0 ∧ t 90 = .sc (.bool ((((x7.1 == x8.1) && (x7.2 == x8.2)) && ((x9.1.Kind == x11.1.Kind) && ((x9.1.Tag == x11.1.Tag) && ((x9.1.Count == x11.1.Count))))) && (x9.2 == x11.2))) ∧ H b1 = some (.cells (c34 a0) 34) ∧ b1 < n ∧ H b2 = some (.cells (c93 a3) 93) ∧ b2 < n ∧ b1 ≠ b2 ∧ n0 ≤ n) (fun J6 hJ6 => ?_) ?_
      · rcases Bool.eq_false_or_eq_true (((x7.1 == x8.1) && (x7.2 == x8.2)) && ((x9.1.Kind == x11.1.Kind) && ((x9.1.Tag == x11.1.Tag) && ((x9.1.Count == x11.1.Count))))) with hb6 | hb6
        · rw [hb6] at f86
          refine Stk.runD 4 (fun t H n => t 4 = .own b1 0 ∧ t 7 = .own b2 0 ∧ t 90 = .sc (.bool (x9.2 == x11.2)) ∧ H b1 = some (.cells (c34 a0) 34) ∧ b1 < n ∧ H b2 = some (.cells (c93 a3) 93) ∧ b2 < n ∧ b1 ≠ b2 ∧ n0 ≤ n) (fun J hJ => ?_) ?_
          · simp [-splice, f4, f7, f14, f16, f86, b_b1, b_b2, eqM4]
            exact hJ _ _ _ ⟨by simp [f4], by simp [f7], by simp [-splice, f4, f7, f14, f16, f86, b_b1, b_b2, eqM4], b_b1, l_b1, b_b2, l_b2, d_b1_b2, ln0⟩
          clear f4 f7 f14 f16 f86 b_b1 l_b1 b_b2 l_b2 d_b1_b2 ln0
          rintro t H n ⟨f4, f7, f90, b_b1, l_b1, b_b2, l_b2, d_b1_b2, ln0⟩
          refine Stk.onD ?_
          exact Stk.ln 0 (by decide) (hJ6 _ _ _ ⟨f4, f7, f90.trans (congrArg (fun q => AV.sc (.bool q)) (by rw [hb6]; rfl)), b_b1, l_b1, b_b2, l_b2, d_b1_b2, ln0⟩)
        · rw [hb6] at f86
          refine Stk.runD 4 (fun t H n => t 4 = .own b1 0 ∧ t 7 = .own b2 0 ∧ t 90 = .sc (.bool false) ∧ H b1 = some (.cells (c34 a0) 34) ∧ b1 < n ∧ H b2 = some (.cells (c93 a3) 93) ∧ b2 < n ∧ b1 ≠ b2 ∧ n0 ≤ n) (fun J hJ => ?_) ?_
          · simp [-splice, f4, f7, f14, f16, f86, b_b1, b_b2]
            exact hJ _ _ _ ⟨by simp [f4], by simp [f7], by simp [-splice, f4, f7, f14, f16, f86, b_b1, b_b2], b_b1, l_b1, b_b2, l_b2, d_b1_b2, ln0⟩
          clear f4 f7 f14 f16 f86 b_b1 l_b1 b_b2 l_b2 d_b1_b2 ln0
          rintro t H n ⟨f4, f7, f90, b_b1, l_b1, b_b2, l_b2, d_b1_b2, ln0⟩
          refine Stk.onD ?_
          exact Stk.ln 0 (by decide) (hJ6 _ _ _ ⟨f4, f7, f90.trans (congrArg (fun q => AV.sc (.bool q)) (by rw [hb6]; rfl)), b_b1, l_b1, b_b2, l_b2, d_b1_b2, ln0⟩)
      clear f4 f7 f14 f16 f86 b_b1 l_b1 b_b2 l_b2 d_b1_b2 ln0
      rintro t H n ⟨f4, f7, f90, b_b1, l_b1, b_b2, l_b2, d_b1_b2, ln0⟩
      refine Stk.runD 1 (fun t H n => t 4 = .own b1 0 ∧ t 7 = .own b2 0 ∧ t 91 = .sc (.bool ((((x7.1 == x8.1) && (x7.2 == x8.2)) && ((x9.1.Kind == x11.1.Kind) && ((x9.1.Tag == x11.1.Tag) && ((x9.1.Count == x11.1.Count))))) && (x9.2 == x11.2))) ∧ H b1 = some (.cells (c34 a0) 34) ∧ b1 < n ∧ H b2 = some (.cells (c93 a3) 93) ∧ b2 < n ∧ b1 ≠ b2 ∧ n0 ≤ n) (fun J hJ => ?_) ?_
      · simp [-splice, f4, f7, f90, b_b1, b_b2]
        exact hJ _ _ _ ⟨by simp [f4], by simp [f7], by simp [-splice, f4, f7, f90, b_b1, b_b2], b_b1, l_b1, b_b2, l_b2, d_b1_b2, ln0⟩
      clear f4 f7 f90 b_b1 l_b1 b_b2 l_b2 d_b1_b2 ln0
      rintro t H n ⟨f4, f7, f91, b_b1, l_b1, b_b2, l_b2, d_b1_b2, ln0⟩
      obtain ⟨K7, hK7, h⟩ := jnd h
      refine Stk.jd 6 (fun t H n => ∃ v22 : Bool, K7 v22 = some r ∧ t 7 = .own b2 0 ∧ t 97 = .sc (.bool v22) ∧ H b2 = some (.cells (c93 a3) 93) ∧ b2 < n) (fun J7 hJ7 => ?_) ?_
      · rcases Bool.eq_false_or_eq_true ((((x7.1 == x8.1) && (x7.2 == x8.2)) && ((x9.1.Kind == x11.1.Kind) && ((x9.1.Tag == x11.1.Tag) && ((x9.1.Count == x11.1.Count))))) && (x9.2 == x11.2)) with hb7 | hb7
        · rw [hb7] at f91
          replace h := cT hb7 h
          refine Stk.runD 1 (fun t H n => t 4 = .own b1 0 ∧ t 7 = .own b2 0 ∧ t 91 = .sc (.bool true) ∧ t 92 = .agg (c34 a0) ∧ H b1 = some (.cells (c34 a0) 34) ∧ b1 < n ∧ H b2 = some (.cells (c93 a3) 93) ∧ b2 < n ∧ b1 ≠ b2 ∧ n0 ≤ n) (fun J hJ => ?_) ?_
          · simp [-splice, f4, f7, f91, b_b1, b_b2, ld_34_0_34]
            exact hJ _ _ _ ⟨by simp [f4], by simp [f7], by simp [f91], by simp [-splice, f4, f7, f91, b_b1, b_b2, ld_34_0_34], b_b1, l_b1, b_b2, l_b2, d_b1_b2, ln0⟩
          clear f4 f7 f91 b_b1 l_b1 b_b2 l_b2 d_b1_b2 ln0
          rintro t H n ⟨f4, f7, f91, f92, b_b1, l_b1, b_b2, l_b2, d_b1_b2, ln0⟩
          obtain ⟨x23, hx23, h⟩ := bnd h
          refine Stk.cvD (g := 49) (args := [.agg (c34 a0)]) (args' := [.agg (c34 a0)]) (v := .sc (.int .i64 x23)) [] (ok_heap_Size F _ _ hx23) rfl (by simp) rfl (by simp [f4, f7, f91, f92]) rfl rfl (by simp [f4, f7, f91, f92]) (.cons (.free (fr34 _)) (.nil)) (.inl ⟨rfl, rfl⟩) (fun t' ht' => ?_)
          refine Stk.gen (fun t H n => t 4 = .own b1 0 ∧ t 7 = .own b2 0 ∧ t 91 = .sc (.bool true) ∧ t 93 = .sc (.int .i64 x23) ∧ H b1 = some (.cells (c34 a0) 34) ∧ b1 < n ∧ H b2 = some (.cells (c93 a3) 93) ∧ b2 < n ∧ b1 ≠ b2 ∧ n0 ≤ n) ⟨by simp [ht', f4], by simp [ht', f7], by simp [ht', f91], by simp [ht'], b_b1, l_b1, b_b2, l_b2, d_b1_b2, ln0⟩ ?_
          clear f4 f7 f91 f92 b_b1 l_b1 b_b2 l_b2 d_b1_b2 ln0 ht' t'
          rintro t H n ⟨f4, f7, f91, f93, b_b1, l_b1, b_b2, l_b2, d_b1_b2, ln0⟩
          refine Stk.runD 1 (fun t H n => t 7 = .own b2 0 ∧ t 91 = .sc (.bool true) ∧ t 93 = .sc (.int .i64 x23) ∧ t 94 = .agg (c34 a0) ∧ H b2 = some (.cells (c93 a3) 93) ∧ b2 < n ∧ n0 ≤ n) (fun J hJ => ?_) ?_
          · simp [-splice, f4, f7, f91, f93, b_b1, b_b2, ld_34_0_34]
            exact hJ _ _ _ ⟨by simp [f7], by simp [f91], by simp [f93], by simp [-splice, f4, f7, f91, f93, b_b1, b_b2, ld_34_0_34], b_b2, l_b2, ln0⟩
          clear f4 f7 f91 f93 b_b1 l_b1 b_b2 l_b2 d_b1_b2 ln0
          rintro t H n ⟨f7, f91, f93, f94, b_b2, l_b2, ln0⟩
          obtain ⟨x24, hx24, h⟩ := bnd h
          refine Stk.cvD (g := 36) (args := [.agg (c34 a0)]) (args' := [.agg (c34 a0)]) (v := .sc (.int .i64 x24)) [] (ok_R16_Size F _ _ hx24) rfl (by simp) rfl (by simp [f7, f91, f93, f94]) rfl rfl (by simp [f7, f91, f93, f94]) (.cons (.free (fr34 _)) (.nil)) (.inl ⟨rfl, rfl⟩) (fun t' ht' => ?_)
          refine Stk.gen (fun t H n => t 7 = .own b2 0 ∧ t 91 = .sc (.bool true) ∧ t 93 = .sc (.int .i64 x23) ∧ t 95 = .sc (.int .i64 x24) ∧ H b2 = some (.cells (c93 a3) 93) ∧ b2 < n ∧ n0 ≤ n) ⟨by simp [ht', f7], by simp [ht', f91], by simp [ht', f93], by simp [ht'], b_b2, l_b2, ln0⟩ ?_
          clear f7 f91 f93 f94 b_b2 l_b2 ln0 ht' t'
          rintro t H n ⟨f7, f91, f93, f95, b_b2, l_b2, ln0⟩
          refine Stk.runD 2 (fun t H n => t 7 = .own b2 0 ∧ t 97 = .sc (.bool (x23 == x24)) ∧ H b2 = some (.cells (c93 a3) 93) ∧ b2 < n ∧ n0 ≤ n) (fun J hJ => ?_) ?_
          · simp [-splice, f7, f91, f93, f95, b_b2]
            exact hJ _ _ _ ⟨by simp [f7], by simp [-splice, f7, f91, f93, f95, b_b2], b_b2, l_b2, ln0⟩
          clear f7 f91 f93 f95 b_b2 l_b2 ln0
          rintro t H n ⟨f7, f97, b_b2, l_b2, ln0⟩
          refine Stk.onD ?_
          exact Stk.ln 0 (by decide) (hJ7 _ _ _ ⟨(x23 == x24), h, f7, f97, b_b2, l_b2⟩)
        · rw [hb7] at f91
          replace h := cF hb7 h
          refine Stk.runD 6 (fun t H n => t 7 = .own b2 0 ∧ t 97 = .sc (.bool false) ∧ H b2 = some (.cells (c93 a3) 93) ∧ b2 < n ∧ n0 ≤ n) (fun J hJ => ?_) ?_
          · simp [-splice, f4, f7, f91, b_b1, b_b2]
            exact hJ _ _ _ ⟨by simp [f7], by simp [-splice, f4, f7, f91, b_b1, b_b2], b_b2, l_b2, ln0⟩
          clear f4 f7 f91 b_b1 l_b1 b_b2 l_b2 d_b1_b2 ln0
          rintro t H n ⟨f7, f97, b_b2, l_b2, ln0⟩
          refine Stk.onD ?_
          exact Stk.ln 0 (by decide) (hJ7 _ _ _ ⟨false, h, f7, f97, b_b2, l_b2⟩)
      clear h f4 f7 f91 b_b1 l_b1 b_b2 l_b2 d_b1_b2 ln0
      rintro t H n ⟨v22, h, f7, f97, b_b2, l_b2⟩
      subst hK7
      refine Stk.runD 1 (fun t H n => t 7 = .own b2 0 ∧ t 98 = .sc (.bool v22) ∧ H b2 = some (.cells (c93 a3) 93) ∧ b2 < n) (fun J hJ => ?_) ?_
      · simp [-splice, f7, f97, b_b2]
        exact hJ _ _ _ ⟨by simp [f7], by simp [-splice, f7, f97, b_b2], b_b2, l_b2⟩
      clear f7 f97 b_b2 l_b2
      rintro t H n ⟨f7, f98, b_b2, l_b2⟩
      obtain ⟨K8, hK8, h⟩ := jnd h
      refine Stk.jd 6 (fun t H n => ∃ v25 : Bool, K8 v25 = some r ∧ t 104 = .sc (.bool v25)) (fun J8 hJ8 => ?_) ?_
      · rcases Bool.eq_false_or_eq_true v22 with hb8 | hb8
        · rw [hb8] at f98
          replace h := cT hb8 h
          refine Stk.runD 1 (fun t H n => t 7 = .own b2 0 ∧ t 98 = .sc (.bool true) ∧ t 99 = .agg (c93 a3) ∧ H b2 = some (.cells (c93 a3) 93) ∧ b2 < n) (fun J hJ => ?_) ?_
          · simp [-splice, f7, f98, b_b2, ld_93_0_93]
            exact hJ _ _ _ ⟨by simp [f7], by simp [f98], by simp [-splice, f7, f98, b_b2, ld_93_0_93], b_b2, l_b2⟩
          clear f7 f98 b_b2 l_b2
          rintro t H n ⟨f7, f98, f99, b_b2, l_b2⟩
          obtain ⟨x26, hx26, h⟩ := bnd h
          refine Stk.cvD (g := 61) (args := [.agg (c93 a3)]) (args' := [.agg (c93 a3)]) (v := .sc (.bool x26)) [] (ok_heap_Fit F _ _ hx26) rfl (by simp) rfl (by simp [f7, f98, f99]) rfl rfl (by simp [f7, f98, f99]) (.cons (.free (fr93 _)) (.nil)) (.inl ⟨rfl, rfl⟩) (fun t' ht' => ?_)
          refine Stk.gen (fun t H n => t 7 = .own b2 0 ∧ t 98 = .sc (.bool true) ∧ t 100 = .sc (.bool x26) ∧ H b2 = some (.cells (c93 a3) 93) ∧ b2 < n) ⟨by simp [ht', f7], by simp [ht', f98], by simp [ht'], b_b2, l_b2⟩ ?_
          clear f7 f98 f99 b_b2 l_b2 ht' t'
          rintro t H n ⟨f7, f98, f100, b_b2, l_b2⟩
          refine Stk.runD 1 (fun t H n => t 98 = .sc (.bool true) ∧ t 100 = .sc (.bool x26) ∧ t 101 = .agg (c93 a3)) (fun J hJ => ?_) ?_
          · simp [-splice, f7, f98, f100, b_b2, ld_93_0_93]
            exact hJ _ _ _ ⟨by simp [f98], by simp [f100], by simp [-splice, f7, f98, f100, b_b2, ld_93_0_93]⟩
          clear f7 f98 f100 b_b2 l_b2
          rintro t H n ⟨f98, f100, f101⟩
          obtain ⟨x27, hx27, h⟩ := bnd h
          refine Stk.cvD (g := 62) (args := [.agg (c93 a3)]) (args' := [.agg (c93 a3)]) (v := .sc (.bool x27)) [] (ok_R16_Fit F _ _ hx27) rfl (by simp) rfl (by simp [f98, f100, f101]) rfl rfl (by simp [f98, f100, f101]) (.cons (.free (fr93 _)) (.nil)) (.inl ⟨rfl, rfl⟩) (fun t' ht' => ?_)
          refine Stk.gen (fun t H n => t 98 = .sc (.bool true) ∧ t 100 = .sc (.bool x26) ∧ t 102 = .sc (.bool x27)) ⟨by simp [ht', f98], by simp [ht', f100], by simp [ht']⟩ ?_
          clear f98 f100 f101 ht' t'
          rintro t H n ⟨f98, f100, f102⟩
          refine Stk.runD 2 (fun t H n => t 104 = .sc (.bool (x26 == x27))) (fun J hJ => ?_) ?_
          · simp [-splice, f98, f100, f102, eqM4]
            exact hJ _ _ _ (by simp [-splice, f98, f100, f102, eqM4])
          clear f98 f100 f102
          rintro t H n f104
          refine Stk.onD ?_
          exact Stk.ln 0 (by decide) (hJ8 _ _ _ ⟨(x26 == x27), h, f104⟩)
        · rw [hb8] at f98
          replace h := cF hb8 h
          refine Stk.runD 6 (fun t H n => t 104 = .sc (.bool false)) (fun J hJ => ?_) ?_
          · simp [-splice, f7, f98, b_b2]
            exact hJ _ _ _ (by simp [-splice, f7, f98, b_b2])
          clear f7 f98 b_b2 l_b2
          rintro t H n f104
          refine Stk.onD ?_
          exact Stk.ln 0 (by decide) (hJ8 _ _ _ ⟨false, h, f104⟩)
      clear h f7 f98 b_b2 l_b2
      rintro t H n ⟨v25, h, f104⟩
      subst hK8
      refine Stk.runD 1 (fun t H n => t 105 = .sc (.bool v25)) (fun J hJ => ?_) ?_
      · simp [-splice, f104]
        exact hJ _ _ _ (by simp [-splice, f104])
      clear f104
      rintro t H n f105
      obtain ⟨K9, hK9, h⟩ := jnd h
      refine Stk.jd 2 (fun t H n => ∃ v28 : Bool, K9 v28 = some r ∧ t 107 = .sc (.bool v28)) (fun J9 hJ9 => ?_) ?_
      · rcases Bool.eq_false_or_eq_true v25 with hb9 | hb9
        · rw [hb9] at f105
          replace h := cT hb9 h
          obtain ⟨x29, hx29, h⟩ := bnd h
          refine Stk.cvD (g := 34) (args := []) (args' := []) (v := .sc (.bool x29)) [] (ok_L16_awake F  _ hx29) rfl (by simp) rfl (by simp [f105]) rfl rfl (by simp [f105]) (.nil) (.inl ⟨rfl, rfl⟩) (fun t' ht' => ?_)
          refine Stk.gen (fun t H n => t 105 = .sc (.bool true) ∧ t 106 = .sc (.bool x29)) ⟨by simp [ht', f105], by simp [ht']⟩ ?_
          clear f105 ht' t'
          rintro t H n ⟨f105, f106⟩
          refine Stk.runD 1 (fun t H n => t 107 = .sc (.bool x29)) (fun J hJ => ?_) ?_
          · simp [-splice, f105, f106]
            exact hJ _ _ _ (by simp [-splice, f105, f106])
          clear f105 f106
          rintro t H n f107
          refine Stk.onD ?_
          exact Stk.ln 0 (by decide) (hJ9 _ _ _ ⟨x29, h, f107⟩)
        · rw [hb9] at f105
          replace h := cF hb9 h
          refine Stk.runD 2 (fun t H n => t 107 = .sc (.bool false)) (fun J hJ => ?_) ?_
          · simp [-splice, f105]
            exact hJ _ _ _ (by simp [-splice, f105])
          clear f105
          rintro t H n f107
          refine Stk.onD ?_
          exact Stk.ln 0 (by decide) (hJ9 _ _ _ ⟨false, h, f107⟩)
      clear h f105
      rintro t H n ⟨v28, h, f107⟩
      subst hK9
      refine Stk.runD 1 (fun t H n => t 8 = .sc (.bool v28)) (fun J hJ => ?_) ?_
      · simp [-splice, f107]
        exact hJ _ _ _ (by simp [-splice, f107])
      clear f107
      rintro t H n f8
      refine Stk.onD ?_
      refine Stk.rt ?_
      have hq := Option.some.inj h; subst hq
      exact (hr _ _ _ (.sc (.bool v28)) ([]) (by simp [f8]) (.inr (.inr (.free (rfl))))).1
end Go.Proofs.Ytfflojbgikfbmaa.M
