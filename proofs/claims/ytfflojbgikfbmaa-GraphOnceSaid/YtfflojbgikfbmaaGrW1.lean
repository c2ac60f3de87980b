/-
  The functions come to them.
-/
import Derived.Test.YtfflojbgikfbmaaGrM
namespace Go.Proofs.Ytfflojbgikfbmaa.M
open Go.Proofs.YtfflojbgikfbmaaW.Ah Go.Proofs.Ytfflojbgikfbmaa
set_option linter.unusedVariables false
set_option linter.unusedSimpArgs false
set_option maxRecDepth 8000
attribute [local simp] T.t2 T.t3 T.t4 T.t22 T.t23 T.t31 T.t34 T.t35 T.t37 T.t138 T.t215 List.range List.range.loop
attribute [-simp] appendAV fillAV
theorem ok_heap_can (F : Nat) (a0 : api_Head) (r : Bool) (h : heap_can F a0 = some r) : RunF Try.prog T.T 112 [.agg (c34 a0)] (.sc (.bool r)) := by
  rw [heap_can] at h
  refine RunF.z Try.func112 rfl rfl rfl rfl rfl (fun C hr => ?_)
  refine Stk.gen (fun t H n => t 0 = .agg (c34 a0)) (by simp) ?_
  rintro t H n f0
  refine Stk.sq ?_
  refine Stk.rg ?_
  refine Stk.om (mop_box T.t34 (cs := c34 a0) (by show partOk (t 0) = true; rw [f0]; rfl) (by show cellsOf (t 0) = _; rw [f0]; rfl)) (by simp [f0]) rfl (fun t' ht' => ?_)
  refine Stk.gen (fun t H n => ∃ b1, t 1 = .own b1 0 ∧ H b1 = some (.cells (c34 a0) 34) ∧ b1 < n) ⟨n, by simp [ht'], upd_same _ _ _, Nat.lt_succ_self _⟩ ?_
  clear f0 ht' t'
  rintro t H n ⟨b1, f1, b_b1, l_b1⟩
  refine Stk.run 1 (fun t H n => t 1 = .own b1 0 ∧ H b1 = some (.cells (c34 a0) 34) ∧ b1 < n) (fun J hJ => ?_) ?_
  · simp [-splice, f1, b_b1]
    exact hJ _ _ _ ⟨by simp [f1], b_b1, l_b1⟩
  clear f1 b_b1 l_b1
  rintro t H n ⟨f1, b_b1, l_b1⟩
  refine Stk.on ?_
  refine Stk.sq ?_
  refine Stk.sq ?_
  refine Stk.rg ?_
  refine Stk.run 2 (fun t H n => t 1 = .own b1 0 ∧ t 4 = .sc (.int .i64 a0.Kind) ∧ H b1 = some (.cells (c34 a0) 34) ∧ b1 < n) (fun J hJ => ?_) ?_
  · simp [-splice, f1, b_b1, ld_34_0_3]
    exact hJ _ _ _ ⟨by simp [f1], by simp [-splice, f1, b_b1, ld_34_0_3], b_b1, l_b1⟩
  clear f1 b_b1 l_b1
  rintro t H n ⟨f1, f4, b_b1, l_b1⟩
  refine Stk.on ?_
  refine Stk.bk ?_
  refine Stk.sq ?_
  refine Stk.rg ?_
  refine Stk.run 2 (fun t H n => t 1 = .own b1 0 ∧ t 4 = .sc (.int .i64 a0.Kind) ∧ t 5 = .sc (.bool (a0.Kind == 0)) ∧ H b1 = some (.cells (c34 a0) 34) ∧ b1 < n) (fun J hJ => ?_) ?_
  · simp [-splice, f1, f4, b_b1]
    exact hJ _ _ _ ⟨by simp [f1], by simp [f4], by simp [-splice, f1, f4, b_b1], b_b1, l_b1⟩
  clear f1 f4 b_b1 l_b1
  rintro t H n ⟨f1, f4, f5, b_b1, l_b1⟩
  refine Stk.on ?_
  refine Stk.cond (a0.Kind == 0) (by exact f5) (fun hb2 => ?_) (fun hb2 => ?_)
  · have h := cT hb2 h
    refine Stk.sq ?_
    refine Stk.rg ?_
    refine Stk.run 4 (fun t H n => t 1 = .own b1 0 ∧ t 10 = .sc (.bool (decide (0 ≤ a0.Tag))) ∧ H b1 = some (.cells (c34 a0) 34) ∧ b1 < n) (fun J hJ => ?_) ?_
    · simp [-splice, f1, f4, f5, b_b1, ld_34_1_3]
      exact hJ _ _ _ ⟨by simp [f1], by simp [-splice, f1, f4, f5, b_b1, ld_34_1_3], b_b1, l_b1⟩
    clear f1 f4 f5 b_b1 l_b1
    rintro t H n ⟨f1, f10, b_b1, l_b1⟩
    refine Stk.jo 4 (fun t H n => t 1 = .own b1 0 ∧ t 14 = .sc (.bool ((decide (0 ≤ a0.Tag)) && (decide (a0.Tag ≤ 15)))) ∧ H b1 = some (.cells (c34 a0) 34) ∧ b1 < n) (fun J1 hJ1 => ?_) ?_
    · rcases Bool.eq_false_or_eq_true (decide (0 ≤ a0.Tag)) with hb1 | hb1
      · rw [hb1] at f10
        refine Stk.run 4 (fun t H n => t 1 = .own b1 0 ∧ t 14 = .sc (.bool (decide (a0.Tag ≤ 15))) ∧ H b1 = some (.cells (c34 a0) 34) ∧ b1 < n) (fun J hJ => ?_) ?_
        · simp [-splice, f1, f10, b_b1, ld_34_1_3]
          exact hJ _ _ _ ⟨by simp [f1], by simp [-splice, f1, f10, b_b1, ld_34_1_3], b_b1, l_b1⟩
        clear f1 f10 b_b1 l_b1
        rintro t H n ⟨f1, f14, b_b1, l_b1⟩
        refine Stk.on ?_
        exact Stk.ln 0 (by decide) (hJ1 _ _ _ ⟨f1, f14.trans (congrArg (fun q => AV.sc (.bool q)) (by rw [hb1]; rfl)), b_b1, l_b1⟩)
      · rw [hb1] at f10
        refine Stk.run 4 (fun t H n => t 1 = .own b1 0 ∧ t 14 = .sc (.bool false) ∧ H b1 = some (.cells (c34 a0) 34) ∧ b1 < n) (fun J hJ => ?_) ?_
        · simp [-splice, f1, f10, b_b1]
          exact hJ _ _ _ ⟨by simp [f1], by simp [-splice, f1, f10, b_b1], b_b1, l_b1⟩
        clear f1 f10 b_b1 l_b1
        rintro t H n ⟨f1, f14, b_b1, l_b1⟩
        refine Stk.on ?_
        exact Stk.ln 0 (by decide) (hJ1 _ _ _ ⟨f1, f14.trans (congrArg (fun q => AV.sc (.bool q)) (by rw [hb1]; rfl)), b_b1, l_b1⟩)
    clear f1 f10 b_b1 l_b1
    rintro t H n ⟨f1, f14, b_b1, l_b1⟩
    refine Stk.run 1 (fun t H n => t 1 = .own b1 0 ∧ t 15 = .sc (.bool ((decide (0 ≤ a0.Tag)) && (decide (a0.Tag ≤ 15)))) ∧ H b1 = some (.cells (c34 a0) 34) ∧ b1 < n) (fun J hJ => ?_) ?_
    · simp [-splice, f1, f14, b_b1]
      exact hJ _ _ _ ⟨by simp [f1], by simp [-splice, f1, f14, b_b1], b_b1, l_b1⟩
    clear f1 f14 b_b1 l_b1
    rintro t H n ⟨f1, f15, b_b1, l_b1⟩
    refine Stk.jo 4 (fun t H n => t 1 = .own b1 0 ∧ t 19 = .sc (.bool (((decide (0 ≤ a0.Tag)) && (decide (a0.Tag ≤ 15))) && (decide (0 < a0.Count)))) ∧ H b1 = some (.cells (c34 a0) 34) ∧ b1 < n) (fun J2 hJ2 => ?_) ?_
    · rcases Bool.eq_false_or_eq_true ((decide (0 ≤ a0.Tag)) && (decide (a0.Tag ≤ 15))) with hb2 | hb2
      · rw [hb2] at f15
        refine Stk.run 4 (fun t H n => t 1 = .own b1 0 ∧ t 19 = .sc (.bool (decide (0 < a0.Count))) ∧ H b1 = some (.cells (c34 a0) 34) ∧ b1 < n) (fun J hJ => ?_) ?_
        · simp [-splice, f1, f15, b_b1, ld_34_2_3]
          exact hJ _ _ _ ⟨by simp [f1], by simp [-splice, f1, f15, b_b1, ld_34_2_3], b_b1, l_b1⟩
        clear f1 f15 b_b1 l_b1
        rintro t H n ⟨f1, f19, b_b1, l_b1⟩
        refine Stk.on ?_
        exact Stk.ln 0 (by decide) (hJ2 _ _ _ ⟨f1, f19.trans (congrArg (fun q => AV.sc (.bool q)) (by rw [hb2]; rfl)), b_b1, l_b1⟩)
      · rw [hb2] at f15
        refine Stk.run 4 (fun t H n => t 1 = .own b1 0 ∧ t 19 = .sc (.bool false) ∧ H b1 = some (.cells (c34 a0) 34) ∧ b1 < n) (fun J hJ => ?_) ?_
        · simp [-splice, f1, f15, b_b1]
          exact hJ _ _ _ ⟨by simp [f1], by simp [-splice, f1, f15, b_b1], b_b1, l_b1⟩
        clear f1 f15 b_b1 l_b1
        rintro t H n ⟨f1, f19, b_b1, l_b1⟩
        refine Stk.on ?_
        exact Stk.ln 0 (by decide) (hJ2 _ _ _ ⟨f1, f19.trans (congrArg (fun q => AV.sc (.bool q)) (by rw [hb2]; rfl)), b_b1, l_b1⟩)
    clear f1 f15 b_b1 l_b1
    rintro t H n ⟨f1, f19, b_b1, l_b1⟩
    refine Stk.run 1 (fun t H n => t 1 = .own b1 0 ∧ t 20 = .sc (.bool (((decide (0 ≤ a0.Tag)) && (decide (a0.Tag ≤ 15))) && (decide (0 < a0.Count)))) ∧ H b1 = some (.cells (c34 a0) 34) ∧ b1 < n) (fun J hJ => ?_) ?_
    · simp [-splice, f1, f19, b_b1]
      exact hJ _ _ _ ⟨by simp [f1], by simp [-splice, f1, f19, b_b1], b_b1, l_b1⟩
    clear f1 f19 b_b1 l_b1
    rintro t H n ⟨f1, f20, b_b1, l_b1⟩
    refine Stk.jo 4 (fun t H n => t 24 = .sc (.bool ((((decide (0 ≤ a0.Tag)) && (decide (a0.Tag ≤ 15))) && (decide (0 < a0.Count))) && (decide (a0.Count ≤ 6))))) (fun J3 hJ3 => ?_) ?_
    · rcases Bool.eq_false_or_eq_true (((decide (0 ≤ a0.Tag)) && (decide (a0.Tag ≤ 15))) && (decide (0 < a0.Count))) with hb3 | hb3
      · rw [hb3] at f20
        refine Stk.run 4 (fun t H n => t 24 = .sc (.bool (decide (a0.Count ≤ 6)))) (fun J hJ => ?_) ?_
        · simp [-splice, f1, f20, b_b1, ld_34_2_3]
          exact hJ _ _ _ (by simp [-splice, f1, f20, b_b1, ld_34_2_3])
        clear f1 f20 b_b1 l_b1
        rintro t H n f24
        refine Stk.on ?_
        exact Stk.ln 0 (by decide) (hJ3 _ _ _ (f24.trans (congrArg (fun q => AV.sc (.bool q)) (by rw [hb3]; rfl))))
      · rw [hb3] at f20
        refine Stk.run 4 (fun t H n => t 24 = .sc (.bool false)) (fun J hJ => ?_) ?_
        · simp [-splice, f1, f20, b_b1]
          exact hJ _ _ _ (by simp [-splice, f1, f20, b_b1])
        clear f1 f20 b_b1 l_b1
        rintro t H n f24
        refine Stk.on ?_
        exact Stk.ln 0 (by decide) (hJ3 _ _ _ (f24.trans (congrArg (fun q => AV.sc (.bool q)) (by rw [hb3]; rfl))))
    clear f1 f20 b_b1 l_b1
    rintro t H n f24
    refine Stk.run 1 (fun t H n => t 2 = .sc (.bool ((((decide (0 ≤ a0.Tag)) && (decide (a0.Tag ≤ 15))) && (decide (0 < a0.Count))) && (decide (a0.Count ≤ 6))))) (fun J hJ => ?_) ?_
    · simp [-splice, f24]
      exact hJ _ _ _ (by simp [-splice, f24])
    clear f24
    rintro t H n f2
    refine Stk.on ?_
    refine Stk.rt ?_
    have hq := Option.some.inj h; subst hq
    exact (hr _ _ _ (.sc (.bool ((((decide (0 ≤ a0.Tag)) && (decide (a0.Tag ≤ 15))) && (decide (0 < a0.Count))) && (decide (a0.Count ≤ 6))))) ([]) (by simp [f2]) (.inr (.inr (.free (rfl))))).1
  · have h := cF hb2 h
    refine Stk.sq ?_
    refine Stk.rg ?_
    refine Stk.run 2 (fun t H n => t 1 = .own b1 0 ∧ t 25 = .sc (.bool (a0.Kind == 1)) ∧ H b1 = some (.cells (c34 a0) 34) ∧ b1 < n) (fun J hJ => ?_) ?_
    · simp [-splice, f1, f4, f5, b_b1]
      exact hJ _ _ _ ⟨by simp [f1], by simp [-splice, f1, f4, f5, b_b1], b_b1, l_b1⟩
    clear f1 f4 f5 b_b1 l_b1
    rintro t H n ⟨f1, f25, b_b1, l_b1⟩
    refine Stk.on ?_
    refine Stk.cond (a0.Kind == 1) (by exact f25) (fun hb3 => ?_) (fun hb3 => ?_)
    · have h := cT hb3 h
      refine Stk.sq ?_
      refine Stk.rg ?_
      refine Stk.run 4 (fun t H n => t 1 = .own b1 0 ∧ t 30 = .sc (.bool (a0.Tag == 0)) ∧ H b1 = some (.cells (c34 a0) 34) ∧ b1 < n) (fun J hJ => ?_) ?_
      · simp [-splice, f1, f25, b_b1, ld_34_1_3]
        exact hJ _ _ _ ⟨by simp [f1], by simp [-splice, f1, f25, b_b1, ld_34_1_3], b_b1, l_b1⟩
      clear f1 f25 b_b1 l_b1
      rintro t H n ⟨f1, f30, b_b1, l_b1⟩
      refine Stk.jo 4 (fun t H n => t 1 = .own b1 0 ∧ t 34 = .sc (.bool ((a0.Tag == 0) && (decide (0 ≤ a0.Count)))) ∧ H b1 = some (.cells (c34 a0) 34) ∧ b1 < n) (fun J4 hJ4 => ?_) ?_
      · rcases Bool.eq_false_or_eq_true (a0.Tag == 0) with hb4 | hb4
        · rw [hb4] at f30
          refine Stk.run 4 (fun t H n => t 1 = .own b1 0 ∧ t 34 = .sc (.bool (decide (0 ≤ a0.Count))) ∧ H b1 = some (.cells (c34 a0) 34) ∧ b1 < n) (fun J hJ => ?_) ?_
          · simp [-splice, f1, f30, b_b1, ld_34_2_3]
            exact hJ _ _ _ ⟨by simp [f1], by simp [-splice, f1, f30, b_b1, ld_34_2_3], b_b1, l_b1⟩
          clear f1 f30 b_b1 l_b1
          rintro t H n ⟨f1, f34, b_b1, l_b1⟩
          refine Stk.on ?_
          exact Stk.ln 0 (by decide) (hJ4 _ _ _ ⟨f1, f34.trans (congrArg (fun q => AV.sc (.bool q)) (by rw [hb4]; rfl)), b_b1, l_b1⟩)
        · rw [hb4] at f30
          refine Stk.run 4 (fun t H n => t 1 = .own b1 0 ∧ t 34 = .sc (.bool false) ∧ H b1 = some (.cells (c34 a0) 34) ∧ b1 < n) (fun J hJ => ?_) ?_
          · simp [-splice, f1, f30, b_b1]
            exact hJ _ _ _ ⟨by simp [f1], by simp [-splice, f1, f30, b_b1], b_b1, l_b1⟩
          clear f1 f30 b_b1 l_b1
          rintro t H n ⟨f1, f34, b_b1, l_b1⟩
          refine Stk.on ?_
          exact Stk.ln 0 (by decide) (hJ4 _ _ _ ⟨f1, f34.trans (congrArg (fun q => AV.sc (.bool q)) (by rw [hb4]; rfl)), b_b1, l_b1⟩)
      clear f1 f30 b_b1 l_b1
      rintro t H n ⟨f1, f34, b_b1, l_b1⟩
      refine Stk.run 1 (fun t H n => t 1 = .own b1 0 ∧ t 35 = .sc (.bool ((a0.Tag == 0) && (decide (0 ≤ a0.Count)))) ∧ H b1 = some (.cells (c34 a0) 34) ∧ b1 < n) (fun J hJ => ?_) ?_
      · simp [-splice, f1, f34, b_b1]
        exact hJ _ _ _ ⟨by simp [f1], by simp [-splice, f1, f34, b_b1], b_b1, l_b1⟩
      clear f1 f34 b_b1 l_b1
      rintro t H n ⟨f1, f35, b_b1, l_b1⟩
      refine Stk.jo 4 (fun t H n => t 39 = .sc (.bool (((a0.Tag == 0) && (decide (0 ≤ a0.Count))) && (decide (a0.Count ≤ 64))))) (fun J5 hJ5 => ?_) ?_
      · rcases Bool.eq_false_or_eq_true ((a0.Tag == 0) && (decide (0 ≤ a0.Count))) with hb5 | hb5
        · rw [hb5] at f35
          refine Stk.run 4 (fun t H n => t 39 = .sc (.bool (decide (a0.Count ≤ 64)))) (fun J hJ => ?_) ?_
          · simp [-splice, f1, f35, b_b1, ld_34_2_3]
            exact hJ _ _ _ (by simp [-splice, f1, f35, b_b1, ld_34_2_3])
          clear f1 f35 b_b1 l_b1
          rintro t H n f39
          refine Stk.on ?_
          exact Stk.ln 0 (by decide) (hJ5 _ _ _ (f39.trans (congrArg (fun q => AV.sc (.bool q)) (by rw [hb5]; rfl))))
        · rw [hb5] at f35
          refine Stk.run 4 (fun t H n => t 39 = .sc (.bool false)) (fun J hJ => ?_) ?_
          · simp [-splice, f1, f35, b_b1]
            exact hJ _ _ _ (by simp [-splice, f1, f35, b_b1])
          clear f1 f35 b_b1 l_b1
          rintro t H n f39
          refine Stk.on ?_
          exact Stk.ln 0 (by decide) (hJ5 _ _ _ (f39.trans (congrArg (fun q => AV.sc (.bool q)) (by rw [hb5]; rfl))))
      clear f1 f35 b_b1 l_b1
      rintro t H n f39
      refine Stk.run 1 (fun t H n => t 2 = .sc (.bool (((a0.Tag == 0) && (decide (0 ≤ a0.Count))) && (decide (a0.Count ≤ 64))))) (fun J hJ => ?_) ?_
      · simp [-splice, f39]
        exact hJ _ _ _ (by simp [-splice, f39])
      clear f39
      rintro t H n f2
      refine Stk.on ?_
      refine Stk.rt ?_
      have hq := Option.some.inj h; subst hq
      exact (hr _ _ _ (.sc (.bool (((a0.Tag == 0) && (decide (0 ≤ a0.Count))) && (decide (a0.Count ≤ 64))))) ([]) (by simp [f2]) (.inr (.inr (.free (rfl))))).1
    · have h := cF hb3 h
      refine Stk.sk ?_
      refine Stk.bn ?_
      refine Stk.sq ?_
      refine Stk.rg ?_
      refine Stk.run 1 (fun t H n => t 2 = .sc (.bool false)) (fun J hJ => ?_) ?_
      · simp [-splice, f1, f25, b_b1]
        exact hJ _ _ _ (by simp [-splice, f1, f25, b_b1])
      clear f1 f25 b_b1 l_b1
      rintro t H n f2
      refine Stk.on ?_
      refine Stk.rt ?_
      have hq := Option.some.inj h; subst hq
      exact (hr _ _ _ (.sc (.bool false)) ([]) (by simp [f2]) (.inr (.inr (.free (rfl))))).1
theorem ok_heap_body (F : Nat) (a0 : api_Head) (r : Int) (h : heap_body F a0 = some r) : RunF Try.prog T.T 93 [.agg (c34 a0)] (.sc (.int .i64 r)) := by
  rw [heap_body] at h
  refine RunF.z Try.func93 rfl rfl rfl rfl rfl (fun C hr => ?_)
  refine Stk.gen (fun t H n => t 0 = .agg (c34 a0)) (by simp) ?_
  rintro t H n f0
  refine Stk.sq ?_
  refine Stk.rg ?_
  refine Stk.om (mop_box T.t34 (cs := c34 a0) (by show partOk (t 0) = true; rw [f0]; rfl) (by show cellsOf (t 0) = _; rw [f0]; rfl)) (by simp [f0]) rfl (fun t' ht' => ?_)
  refine Stk.gen (fun t H n => ∃ b1, t 1 = .own b1 0 ∧ H b1 = some (.cells (c34 a0) 34) ∧ b1 < n) ⟨n, by simp [ht'], upd_same _ _ _, Nat.lt_succ_self _⟩ ?_
  clear f0 ht' t'
  rintro t H n ⟨b1, f1, b_b1, l_b1⟩
  refine Stk.run 1 (fun t H n => t 1 = .own b1 0 ∧ H b1 = some (.cells (c34 a0) 34) ∧ b1 < n) (fun J hJ => ?_) ?_
  · simp [-splice, f1, b_b1]
    exact hJ _ _ _ ⟨by simp [f1], b_b1, l_b1⟩
  clear f1 b_b1 l_b1
  rintro t H n ⟨f1, b_b1, l_b1⟩
  refine Stk.on ?_
  refine Stk.sq ?_
  refine Stk.sq ?_
  refine Stk.rg ?_
  refine Stk.run 3 (fun t H n => t 1 = .own b1 0 ∧ t 5 = .sc (.bool (a0.Kind == 1)) ∧ H b1 = some (.cells (c34 a0) 34) ∧ b1 < n) (fun J hJ => ?_) ?_
  · simp [-splice, f1, b_b1, ld_34_0_3]
    exact hJ _ _ _ ⟨by simp [f1], by simp [-splice, f1, b_b1, ld_34_0_3], b_b1, l_b1⟩
  clear f1 b_b1 l_b1
  rintro t H n ⟨f1, f5, b_b1, l_b1⟩
  refine Stk.on ?_
  refine Stk.cond (a0.Kind == 1) (by exact f5) (fun hb2 => ?_) (fun hb2 => ?_)
  · have h := cT hb2 h
    refine Stk.sq ?_
    refine Stk.rg ?_
    refine Stk.run 5 (fun t H n => t 2 = .sc (.int .i64 (shrI .i64 (IntKind.i64.wrap (a0.Count + 7)) 3))) (fun J hJ => ?_) ?_
    · simp [-splice, f1, f5, b_b1, ld_34_2_3]
      exact hJ _ _ _ (by simp [-splice, f1, f5, b_b1, ld_34_2_3])
    clear f1 f5 b_b1 l_b1
    rintro t H n f2
    refine Stk.on ?_
    refine Stk.rt ?_
    have hq := Option.some.inj h; subst hq
    exact (hr _ _ _ (.sc (.int .i64 (shrI .i64 (IntKind.i64.wrap (a0.Count + 7)) 3))) ([]) (by simp [f2]) (.inr (.inr (.free (rfl))))).1
  · have h := cF hb2 h
    refine Stk.sk ?_
    refine Stk.sq ?_
    refine Stk.rg ?_
    refine Stk.run 3 (fun t H n => t 2 = .sc (.int .i64 a0.Count)) (fun J hJ => ?_) ?_
    · simp [-splice, f1, f5, b_b1, ld_34_2_3]
      exact hJ _ _ _ (by simp [-splice, f1, f5, b_b1, ld_34_2_3])
    clear f1 f5 b_b1 l_b1
    rintro t H n f2
    refine Stk.on ?_
    refine Stk.rt ?_
    have hq := Option.some.inj h; subst hq
    exact (hr _ _ _ (.sc (.int .i64 a0.Count)) ([]) (by simp [f2]) (.inr (.inr (.free (rfl))))).1
theorem ok_heap_Size (F : Nat) (a0 : api_Head) (r : Int) (h : heap_Size F a0 = some r) : RunF Try.prog T.T 49 [.agg (c34 a0)] (.sc (.int .i64 r)) := by
  rw [heap_Size] at h
  refine RunF.z Try.func49 rfl rfl rfl rfl rfl (fun C hr => ?_)
  refine Stk.gen (fun t H n => t 0 = .agg (c34 a0)) (by simp) ?_
  rintro t H n f0
  refine Stk.sq ?_
  refine Stk.rg ?_
  refine Stk.om (mop_box T.t34 (cs := c34 a0) (by show partOk (t 0) = true; rw [f0]; rfl) (by show cellsOf (t 0) = _; rw [f0]; rfl)) (by simp [f0]) rfl (fun t' ht' => ?_)
  refine Stk.gen (fun t H n => ∃ b1, t 1 = .own b1 0 ∧ H b1 = some (.cells (c34 a0) 34) ∧ b1 < n) ⟨n, by simp [ht'], upd_same _ _ _, Nat.lt_succ_self _⟩ ?_
  clear f0 ht' t'
  rintro t H n ⟨b1, f1, b_b1, l_b1⟩
  refine Stk.run 1 (fun t H n => t 1 = .own b1 0 ∧ H b1 = some (.cells (c34 a0) 34) ∧ b1 < n) (fun J hJ => ?_) ?_
  · simp [-splice, f1, b_b1]
    exact hJ _ _ _ ⟨by simp [f1], b_b1, l_b1⟩
  clear f1 b_b1 l_b1
  rintro t H n ⟨f1, b_b1, l_b1⟩
  refine Stk.on ?_
  refine Stk.sq ?_
  refine Stk.sq ?_
  refine Stk.rg ?_
  refine Stk.run 1 (fun t H n => t 1 = .own b1 0 ∧ t 3 = .agg (c34 a0) ∧ H b1 = some (.cells (c34 a0) 34) ∧ b1 < n) (fun J hJ => ?_) ?_
  · simp [-splice, f1, b_b1, ld_34_0_34]
    exact hJ _ _ _ ⟨by simp [f1], by simp [-splice, f1, b_b1, ld_34_0_34], b_b1, l_b1⟩
  clear f1 b_b1 l_b1
  rintro t H n ⟨f1, f3, b_b1, l_b1⟩
  obtain ⟨x2, hx2, h⟩ := bnd h
  refine Stk.cv (g := 112) (args := [.agg (c34 a0)]) (args' := [.agg (c34 a0)]) (v := .sc (.bool x2)) [] (ok_heap_can F _ _ hx2) (by simp [f1, f3]) rfl rfl (by simp [f1, f3]) (.cons (.free (fr34 _)) (.nil)) (.inl ⟨rfl, rfl⟩) (fun t' ht' => ?_)
  refine Stk.gen (fun t H n => t 1 = .own b1 0 ∧ t 4 = .sc (.bool x2) ∧ H b1 = some (.cells (c34 a0) 34) ∧ b1 < n) ⟨by simp [ht', f1], by simp [ht'], b_b1, l_b1⟩ ?_
  clear f1 f3 b_b1 l_b1 ht' t'
  rintro t H n ⟨f1, f4, b_b1, l_b1⟩
  refine Stk.run 1 (fun t H n => t 1 = .own b1 0 ∧ t 5 = .sc (.bool (!x2)) ∧ H b1 = some (.cells (c34 a0) 34) ∧ b1 < n) (fun J hJ => ?_) ?_
  · simp [-splice, f1, f4, b_b1]
    exact hJ _ _ _ ⟨by simp [f1], by simp [-splice, f1, f4, b_b1], b_b1, l_b1⟩
  clear f1 f4 b_b1 l_b1
  rintro t H n ⟨f1, f5, b_b1, l_b1⟩
  refine Stk.on ?_
  refine Stk.cond (!x2) (by exact f5) (fun hb3 => ?_) (fun hb3 => ?_)
  · have h := cT hb3 h
    refine Stk.sq ?_
    refine Stk.rg ?_
    refine Stk.run 1 (fun t H n => t 2 = .sc (.int .i64 0)) (fun J hJ => ?_) ?_
    · simp [-splice, f1, f5, b_b1]
      exact hJ _ _ _ (by simp [-splice, f1, f5, b_b1])
    clear f1 f5 b_b1 l_b1
    rintro t H n f2
    refine Stk.on ?_
    refine Stk.rt ?_
    have hq := Option.some.inj h; subst hq
    exact (hr _ _ _ (.sc (.int .i64 0)) ([]) (by simp [f2]) (.inr (.inr (.free (rfl))))).1
  · have h := cF hb3 h
    refine Stk.sk ?_
    refine Stk.sq ?_
    refine Stk.rg ?_
    refine Stk.run 1 (fun t H n => t 6 = .agg (c34 a0)) (fun J hJ => ?_) ?_
    · simp [-splice, f1, f5, b_b1, ld_34_0_34]
      exact hJ _ _ _ (by simp [-splice, f1, f5, b_b1, ld_34_0_34])
    clear f1 f5 b_b1 l_b1
    rintro t H n f6
    obtain ⟨x4, hx4, h⟩ := bnd h
    refine Stk.cv (g := 93) (args := [.agg (c34 a0)]) (args' := [.agg (c34 a0)]) (v := .sc (.int .i64 x4)) [] (ok_heap_body F _ _ hx4) (by simp [f6]) rfl rfl (by simp [f6]) (.cons (.free (fr34 _)) (.nil)) (.inl ⟨rfl, rfl⟩) (fun t' ht' => ?_)
    refine Stk.gen (fun t H n => t 7 = .sc (.int .i64 x4)) (by simp [ht']) ?_
    clear f6 ht' t'
    rintro t H n f7
    refine Stk.run 2 (fun t H n => t 2 = .sc (.int .i64 (IntKind.i64.wrap (2 + x4)))) (fun J hJ => ?_) ?_
    · simp [-splice, f7]
      exact hJ _ _ _ (by simp [-splice, f7])
    clear f7
    rintro t H n f2
    refine Stk.on ?_
    refine Stk.rt ?_
    have hq := Option.some.inj h; subst hq
    exact (hr _ _ _ (.sc (.int .i64 (IntKind.i64.wrap (2 + x4)))) ([]) (by simp [f2]) (.inr (.inr (.free (rfl))))).1
theorem ok_graph_Words (F : Nat) (a0 : (List api_Node)) (r : Int) (h : graph_Words F a0 = some r) : RunF Try.prog T.T 32 [.ssl (encs c37 a0) a0.length false] (.sc (.int .i64 r)) := by
  rw [graph_Words] at h
  refine RunF.z Try.func32 rfl rfl rfl rfl rfl (fun C hr => ?_)
  refine Stk.gen (fun t H n => t 0 = .ssl (encs c37 a0) a0.length false) (by simp) ?_
  rintro t H n f0
  refine Stk.sq ?_
  refine Stk.rg ?_
  refine Stk.run 1 (fun t H n => t 0 = .ssl (encs c37 a0) a0.length false) (fun J hJ => ?_) ?_
  · simp [-splice, f0]
    exact hJ _ _ _ (by simp [f0])
  clear f0
  rintro t H n f0
  refine Stk.on ?_
  refine Stk.sq ?_
  refine Stk.rg ?_
  refine Stk.run 1 (fun t H n => t 0 = .ssl (encs c37 a0) a0.length false ∧ t 3 = .sc (.int .i64 0)) (fun J hJ => ?_) ?_
  · simp [-splice, f0]
    exact hJ _ _ _ ⟨by simp [f0], by simp [-splice, f0]⟩
  clear f0
  rintro t H n ⟨f0, f3⟩
  refine Stk.on ?_
  refine Stk.sq ?_
  refine Stk.sq ?_
  refine Stk.rg ?_
  refine Stk.run 3 (fun t H n => t 3 = .sc (.int .i64 0) ∧ t 6 = .ssl (encs c37 a0) a0.length false ∧ t 7 = .sc (.int .i64 (a0.length : Int)) ∧ t 8 = .sc (.int .i64 0)) (fun J hJ => ?_) ?_
  · simp [-splice, f0, f3]
    exact hJ _ _ _ ⟨by simp [f3], by simp [-splice, f0, f3], by simp [-splice, f0, f3], by simp [-splice, f0, f3]⟩
  clear f0 f3
  rintro t H n ⟨f3, f6, f7, f8⟩
  refine Stk.on ?_
  refine Stk.bk ?_
  refine Stk.lo (fun μ t H n => ∃ v1 : Int, ∃ v2 : Int, graph_Words_L0 F a0 μ v1 v2 = some r ∧ t 3 = .sc (.int .i64 v1) ∧ t 6 = .ssl (encs c37 a0) a0.length false ∧ t 7 = .sc (.int .i64 (a0.length : Int)) ∧ t 8 = .sc (.int .i64 v2)) F ⟨0, 0, h, f3, f6, f7, f8⟩ ?_
  clear h f3 f6 f7 f8
  rintro J1 hJ1 μ t H n ⟨v1, v2, h, f3, f6, f7, f8⟩
  cases μ with
  | zero => exact absurd h (by simp [graph_Words_L0])
  | succ μ =>
  rw [graph_Words_L0] at h
  refine Stk.sq ?_
  refine Stk.rg ?_
  refine Stk.run 1 (fun t H n => t 3 = .sc (.int .i64 v1) ∧ t 6 = .ssl (encs c37 a0) a0.length false ∧ t 7 = .sc (.int .i64 (a0.length : Int)) ∧ t 8 = .sc (.int .i64 v2) ∧ t 9 = .sc (.bool (decide (v2 < (a0.length : Int))))) (fun J hJ => ?_) ?_
  · simp [-splice, f3, f6, f7, f8]
    exact hJ _ _ _ ⟨by simp [f3], by simp [f6], by simp [f7], by simp [f8], by simp [-splice, f3, f6, f7, f8]⟩
  clear f3 f6 f7 f8
  rintro t H n ⟨f3, f6, f7, f8, f9⟩
  refine Stk.on ?_
  refine Stk.sq ?_
  refine Stk.cond (decide (v2 < (a0.length : Int))) (by exact f9) (fun hb5 => ?_) (fun hb5 => ?_)
  · have h := cT hb5 h
    refine Stk.sk ?_
    refine Stk.sq ?_
    refine Stk.bk ?_
    refine Stk.sq ?_
    refine Stk.rg ?_
    obtain ⟨x6, hx6, h⟩ := bnd h
    obtain ⟨i0x6, i1x6, i2x6, _⟩ := idx_ok hx6
    have ex6_0_37 : partOf T.T 37 (encs c37 a0) (v2.toNat * 5) = some (.agg (c37 x6)) := by
        have e0 := part_elem0 (e := c37) (z := 5) (T := T.T) (ty := 37) T.t37 (by decide) (by decide) hx6 0 (by decide)
        (try simp only [Nat.mul_one, Nat.add_zero] at e0)
        exact e0.trans (ld_37_0_37 _)
    refine Stk.run 2 (fun t H n => t 3 = .sc (.int .i64 v1) ∧ t 6 = .ssl (encs c37 a0) a0.length false ∧ t 7 = .sc (.int .i64 (a0.length : Int)) ∧ t 8 = .sc (.int .i64 v2) ∧ t 11 = .agg (c37 x6)) (fun J hJ => ?_) ?_
    · simp [-splice, f3, f6, f7, f8, f9, i0x6, i1x6, pd37, ex6_0_37]
      exact hJ _ _ _ ⟨by simp [f3], by simp [f6], by simp [f7], by simp [f8], by simp [-splice, f3, f6, f7, f8, f9, i0x6, i1x6, pd37, ex6_0_37]⟩
    clear f3 f6 f7 f8 f9
    rintro t H n ⟨f3, f6, f7, f8, f11⟩
    refine Stk.oz T.t37 (cs := c37 (api_Node.mk (api_Head.mk 0 0 0) [] [])) (by rfl) rfl (by simp [f3, f6, f7, f8, f11]) rfl (fun t' ht' => ?_)
    refine Stk.gen (fun t H n => ∃ b7, t 3 = .sc (.int .i64 v1) ∧ t 5 = .own b7 0 ∧ t 6 = .ssl (encs c37 a0) a0.length false ∧ t 7 = .sc (.int .i64 (a0.length : Int)) ∧ t 8 = .sc (.int .i64 v2) ∧ t 11 = .agg (c37 x6) ∧ H b7 = some (.cells (c37 (api_Node.mk (api_Head.mk 0 0 0) [] [])) 37) ∧ b7 < n) ⟨n, by simp [ht', f3], by simp [ht'], by simp [ht', f6], by simp [ht', f7], by simp [ht', f8], by simp [ht', f11], upd_same _ _ _, Nat.lt_succ_self _⟩ ?_
    clear f3 f6 f7 f8 f11 ht' t'
    rintro t H n ⟨b7, f3, f5, f6, f7, f8, f11, b_b7, l_b7⟩
    refine Stk.om (mop_store (z := 5) rfl f5 b_b7 f11 (len37 _) (by rw [len37]; decide) (ok37 _) (st_37_0_37 _ _)) (by simp [f3, f5, f6, f7, f8, f11]) rfl (fun t' ht' => ?_)
    refine Stk.gen (fun t H n => t 3 = .sc (.int .i64 v1) ∧ t 5 = .own b7 0 ∧ t 6 = .ssl (encs c37 a0) a0.length false ∧ t 7 = .sc (.int .i64 (a0.length : Int)) ∧ t 8 = .sc (.int .i64 v2) ∧ H b7 = some (.cells (c37 x6) 37) ∧ b7 < n) ⟨by simp [ht', f3], by simp [ht', f5], by simp [ht', f6], by simp [ht', f7], by simp [ht', f8], upd_same _ _ _, l_b7⟩ ?_
    clear f3 f5 f6 f7 f8 f11 b_b7 l_b7 ht' t'
    rintro t H n ⟨f3, f5, f6, f7, f8, b_b7, l_b7⟩
    refine Stk.on ?_
    refine Stk.rg ?_
    refine Stk.run 3 (fun t H n => t 6 = .ssl (encs c37 a0) a0.length false ∧ t 7 = .sc (.int .i64 (a0.length : Int)) ∧ t 8 = .sc (.int .i64 v2) ∧ t 12 = .sc (.int .i64 v1) ∧ t 14 = .agg (c34 x6.Head)) (fun J hJ => ?_) ?_
    · simp [-splice, f3, f5, f6, f7, f8, b_b7, ld_37_0_34]
      exact hJ _ _ _ ⟨by simp [f6], by simp [f7], by simp [f8], by simp [-splice, f3, f5, f6, f7, f8, b_b7, ld_37_0_34], by simp [-splice, f3, f5, f6, f7, f8, b_b7, ld_37_0_34]⟩
    clear f3 f5 f6 f7 f8 b_b7 l_b7
    rintro t H n ⟨f6, f7, f8, f12, f14⟩
    obtain ⟨x8, hx8, h⟩ := bnd h
    refine Stk.cv (g := 49) (args := [.agg (c34 x6.Head)]) (args' := [.agg (c34 x6.Head)]) (v := .sc (.int .i64 x8)) [] (ok_heap_Size F _ _ hx8) (by simp [f6, f7, f8, f12, f14]) rfl rfl (by simp [f6, f7, f8, f12, f14]) (.cons (.free (fr34 _)) (.nil)) (.inl ⟨rfl, rfl⟩) (fun t' ht' => ?_)
    refine Stk.gen (fun t H n => t 6 = .ssl (encs c37 a0) a0.length false ∧ t 7 = .sc (.int .i64 (a0.length : Int)) ∧ t 8 = .sc (.int .i64 v2) ∧ t 12 = .sc (.int .i64 v1) ∧ t 15 = .sc (.int .i64 x8)) ⟨by simp [ht', f6], by simp [ht', f7], by simp [ht', f8], by simp [ht', f12], by simp [ht']⟩ ?_
    clear f6 f7 f8 f12 f14 ht' t'
    rintro t H n ⟨f6, f7, f8, f12, f15⟩
    refine Stk.run 2 (fun t H n => t 3 = .sc (.int .i64 (IntKind.i64.wrap (v1 + x8))) ∧ t 6 = .ssl (encs c37 a0) a0.length false ∧ t 7 = .sc (.int .i64 (a0.length : Int)) ∧ t 8 = .sc (.int .i64 v2)) (fun J hJ => ?_) ?_
    · simp [-splice, f6, f7, f8, f12, f15]
      exact hJ _ _ _ ⟨by simp [-splice, f6, f7, f8, f12, f15], by simp [f6], by simp [f7], by simp [f8]⟩
    clear f6 f7 f8 f12 f15
    rintro t H n ⟨f3, f6, f7, f8⟩
    refine Stk.on ?_
    refine Stk.bn ?_
    refine Stk.rg ?_
    refine Stk.run 2 (fun t H n => t 3 = .sc (.int .i64 (IntKind.i64.wrap (v1 + x8))) ∧ t 6 = .ssl (encs c37 a0) a0.length false ∧ t 7 = .sc (.int .i64 (a0.length : Int)) ∧ t 8 = .sc (.int .i64 (IntKind.i64.wrap (v2 + 1)))) (fun J hJ => ?_) ?_
    · simp [-splice, f3, f6, f7, f8]
      exact hJ _ _ _ ⟨by simp [f3], by simp [f6], by simp [f7], by simp [-splice, f3, f6, f7, f8]⟩
    clear f3 f6 f7 f8
    rintro t H n ⟨f3, f6, f7, f8⟩
    refine Stk.on ?_
    exact Stk.ln μ (Nat.lt_succ_self _) (hJ1 _ _ _ _ ⟨(IntKind.i64.wrap (v1 + x8)), (IntKind.i64.wrap (v2 + 1)), h, f3, f6, f7, f8⟩)
  · have h := cF hb5 h
    refine Stk.ex rfl ?_
    refine Stk.sq ?_
    refine Stk.rg ?_
    refine Stk.run 2 (fun t H n => t 2 = .sc (.int .i64 v1)) (fun J hJ => ?_) ?_
    · simp [-splice, f3, f6, f7, f8, f9]
      exact hJ _ _ _ (by simp [-splice, f3, f6, f7, f8, f9])
    clear f3 f6 f7 f8 f9
    rintro t H n f2
    refine Stk.on ?_
    refine Stk.rt ?_
    have hq := Option.some.inj h; subst hq
    exact (hr _ _ _ (.sc (.int .i64 v1)) ([]) (by simp [f2]) (.inr (.inr (.free (rfl))))).1
theorem ok_R16_can (F : Nat) (a0 : api_Head) (r : Bool) (h : R16_can F a0 = some r) : RunF Try.prog T.T 92 [.agg (c34 a0)] (.sc (.bool r)) := by
  rw [R16_can] at h
  refine RunF.z Try.func92 rfl rfl rfl rfl rfl (fun C hr => ?_)
  refine Stk.gen (fun t H n => t 0 = .agg (c34 a0)) (by simp) ?_
  rintro t H n f0
  refine Stk.sq ?_
  refine Stk.rg ?_
  refine Stk.om (mop_box T.t34 (cs := c34 a0) (by show partOk (t 0) = true; rw [f0]; rfl) (by show cellsOf (t 0) = _; rw [f0]; rfl)) (by simp [f0]) rfl (fun t' ht' => ?_)
  refine Stk.gen (fun t H n => ∃ b1, t 1 = .own b1 0 ∧ H b1 = some (.cells (c34 a0) 34) ∧ b1 < n) ⟨n, by simp [ht'], upd_same _ _ _, Nat.lt_succ_self _⟩ ?_
  clear f0 ht' t'
  rintro t H n ⟨b1, f1, b_b1, l_b1⟩
  refine Stk.run 1 (fun t H n => t 1 = .own b1 0 ∧ H b1 = some (.cells (c34 a0) 34) ∧ b1 < n) (fun J hJ => ?_) ?_
  · simp [-splice, f1, b_b1]
    exact hJ _ _ _ ⟨by simp [f1], b_b1, l_b1⟩
  clear f1 b_b1 l_b1
  rintro t H n ⟨f1, b_b1, l_b1⟩
  refine Stk.on ?_
  refine Stk.sq ?_
  refine Stk.sq ?_
  refine Stk.rg ?_
  refine Stk.run 3 (fun t H n => t 1 = .own b1 0 ∧ t 5 = .sc (.bool (a0.Kind == 1)) ∧ H b1 = some (.cells (c34 a0) 34) ∧ b1 < n) (fun J hJ => ?_) ?_
  · simp [-splice, f1, b_b1, ld_34_0_3]
    exact hJ _ _ _ ⟨by simp [f1], by simp [-splice, f1, b_b1, ld_34_0_3], b_b1, l_b1⟩
  clear f1 b_b1 l_b1
  rintro t H n ⟨f1, f5, b_b1, l_b1⟩
  refine Stk.on ?_
  refine Stk.cond (a0.Kind == 1) (by exact f5) (fun hb2 => ?_) (fun hb2 => ?_)
  · have h := cT hb2 h
    refine Stk.sq ?_
    refine Stk.rg ?_
    refine Stk.run 4 (fun t H n => t 1 = .own b1 0 ∧ t 9 = .sc (.bool (a0.Tag == 0)) ∧ H b1 = some (.cells (c34 a0) 34) ∧ b1 < n) (fun J hJ => ?_) ?_
    · simp [-splice, f1, f5, b_b1, ld_34_1_3]
      exact hJ _ _ _ ⟨by simp [f1], by simp [-splice, f1, f5, b_b1, ld_34_1_3], b_b1, l_b1⟩
    clear f1 f5 b_b1 l_b1
    rintro t H n ⟨f1, f9, b_b1, l_b1⟩
    refine Stk.jo 4 (fun t H n => t 1 = .own b1 0 ∧ t 13 = .sc (.bool ((a0.Tag == 0) && (decide (0 ≤ a0.Count)))) ∧ H b1 = some (.cells (c34 a0) 34) ∧ b1 < n) (fun J1 hJ1 => ?_) ?_
    · rcases Bool.eq_false_or_eq_true (a0.Tag == 0) with hb1 | hb1
      · rw [hb1] at f9
        refine Stk.run 4 (fun t H n => t 1 = .own b1 0 ∧ t 13 = .sc (.bool (decide (0 ≤ a0.Count))) ∧ H b1 = some (.cells (c34 a0) 34) ∧ b1 < n) (fun J hJ => ?_) ?_
        · simp [-splice, f1, f9, b_b1, ld_34_2_3]
          exact hJ _ _ _ ⟨by simp [f1], by simp [-splice, f1, f9, b_b1, ld_34_2_3], b_b1, l_b1⟩
        clear f1 f9 b_b1 l_b1
        rintro t H n ⟨f1, f13, b_b1, l_b1⟩
        refine Stk.on ?_
        exact Stk.ln 0 (by decide) (hJ1 _ _ _ ⟨f1, f13.trans (congrArg (fun q => AV.sc (.bool q)) (by rw [hb1]; rfl)), b_b1, l_b1⟩)
      · rw [hb1] at f9
        refine Stk.run 4 (fun t H n => t 1 = .own b1 0 ∧ t 13 = .sc (.bool false) ∧ H b1 = some (.cells (c34 a0) 34) ∧ b1 < n) (fun J hJ => ?_) ?_
        · simp [-splice, f1, f9, b_b1]
          exact hJ _ _ _ ⟨by simp [f1], by simp [-splice, f1, f9, b_b1], b_b1, l_b1⟩
        clear f1 f9 b_b1 l_b1
        rintro t H n ⟨f1, f13, b_b1, l_b1⟩
        refine Stk.on ?_
        exact Stk.ln 0 (by decide) (hJ1 _ _ _ ⟨f1, f13.trans (congrArg (fun q => AV.sc (.bool q)) (by rw [hb1]; rfl)), b_b1, l_b1⟩)
    clear f1 f9 b_b1 l_b1
    rintro t H n ⟨f1, f13, b_b1, l_b1⟩
    refine Stk.run 1 (fun t H n => t 1 = .own b1 0 ∧ t 14 = .sc (.bool ((a0.Tag == 0) && (decide (0 ≤ a0.Count)))) ∧ H b1 = some (.cells (c34 a0) 34) ∧ b1 < n) (fun J hJ => ?_) ?_
    · simp [-splice, f1, f13, b_b1]
      exact hJ _ _ _ ⟨by simp [f1], by simp [-splice, f1, f13, b_b1], b_b1, l_b1⟩
    clear f1 f13 b_b1 l_b1
    rintro t H n ⟨f1, f14, b_b1, l_b1⟩
    refine Stk.jo 4 (fun t H n => t 18 = .sc (.bool (((a0.Tag == 0) && (decide (0 ≤ a0.Count))) && (decide (a0.Count ≤ 64))))) (fun J2 hJ2 => ?_) ?_
    · rcases Bool.eq_false_or_eq_true ((a0.Tag == 0) && (decide (0 ≤ a0.Count))) with hb2 | hb2
      · rw [hb2] at f14
        refine Stk.run 4 (fun t H n => t 18 = .sc (.bool (decide (a0.Count ≤ 64)))) (fun J hJ => ?_) ?_
        · simp [-splice, f1, f14, b_b1, ld_34_2_3]
          exact hJ _ _ _ (by simp [-splice, f1, f14, b_b1, ld_34_2_3])
        clear f1 f14 b_b1 l_b1
        rintro t H n f18
        refine Stk.on ?_
        exact Stk.ln 0 (by decide) (hJ2 _ _ _ (f18.trans (congrArg (fun q => AV.sc (.bool q)) (by rw [hb2]; rfl))))
      · rw [hb2] at f14
        refine Stk.run 4 (fun t H n => t 18 = .sc (.bool false)) (fun J hJ => ?_) ?_
        · simp [-splice, f1, f14, b_b1]
          exact hJ _ _ _ (by simp [-splice, f1, f14, b_b1])
        clear f1 f14 b_b1 l_b1
        rintro t H n f18
        refine Stk.on ?_
        exact Stk.ln 0 (by decide) (hJ2 _ _ _ (f18.trans (congrArg (fun q => AV.sc (.bool q)) (by rw [hb2]; rfl))))
    clear f1 f14 b_b1 l_b1
    rintro t H n f18
    refine Stk.run 1 (fun t H n => t 2 = .sc (.bool (((a0.Tag == 0) && (decide (0 ≤ a0.Count))) && (decide (a0.Count ≤ 64))))) (fun J hJ => ?_) ?_
    · simp [-splice, f18]
      exact hJ _ _ _ (by simp [-splice, f18])
    clear f18
    rintro t H n f2
    refine Stk.on ?_
    refine Stk.rt ?_
    have hq := Option.some.inj h; subst hq
    exact (hr _ _ _ (.sc (.bool (((a0.Tag == 0) && (decide (0 ≤ a0.Count))) && (decide (a0.Count ≤ 64))))) ([]) (by simp [f2]) (.inr (.inr (.free (rfl))))).1
  · have h := cF hb2 h
    refine Stk.sk ?_
    refine Stk.sq ?_
    refine Stk.rg ?_
    refine Stk.run 4 (fun t H n => t 1 = .own b1 0 ∧ t 22 = .sc (.bool (a0.Kind == 0)) ∧ H b1 = some (.cells (c34 a0) 34) ∧ b1 < n) (fun J hJ => ?_) ?_
    · simp [-splice, f1, f5, b_b1, ld_34_0_3]
      exact hJ _ _ _ ⟨by simp [f1], by simp [-splice, f1, f5, b_b1, ld_34_0_3], b_b1, l_b1⟩
    clear f1 f5 b_b1 l_b1
    rintro t H n ⟨f1, f22, b_b1, l_b1⟩
    refine Stk.jo 4 (fun t H n => t 1 = .own b1 0 ∧ t 26 = .sc (.bool ((a0.Kind == 0) && (decide (0 ≤ a0.Tag)))) ∧ H b1 = some (.cells (c34 a0) 34) ∧ b1 < n) (fun J3 hJ3 => ?_) ?_
    · rcases Bool.eq_false_or_eq_true (a0.Kind == 0) with hb3 | hb3
      · rw [hb3] at f22
        refine Stk.run 4 (fun t H n => t 1 = .own b1 0 ∧ t 26 = .sc (.bool (decide (0 ≤ a0.Tag))) ∧ H b1 = some (.cells (c34 a0) 34) ∧ b1 < n) (fun J hJ => ?_) ?_
        · simp [-splice, f1, f22, b_b1, ld_34_1_3]
          exact hJ _ _ _ ⟨by simp [f1], by simp [-splice, f1, f22, b_b1, ld_34_1_3], b_b1, l_b1⟩
        clear f1 f22 b_b1 l_b1
        rintro t H n ⟨f1, f26, b_b1, l_b1⟩
        refine Stk.on ?_
        exact Stk.ln 0 (by decide) (hJ3 _ _ _ ⟨f1, f26.trans (congrArg (fun q => AV.sc (.bool q)) (by rw [hb3]; rfl)), b_b1, l_b1⟩)
      · rw [hb3] at f22
        refine Stk.run 4 (fun t H n => t 1 = .own b1 0 ∧ t 26 = .sc (.bool false) ∧ H b1 = some (.cells (c34 a0) 34) ∧ b1 < n) (fun J hJ => ?_) ?_
        · simp [-splice, f1, f22, b_b1]
          exact hJ _ _ _ ⟨by simp [f1], by simp [-splice, f1, f22, b_b1], b_b1, l_b1⟩
        clear f1 f22 b_b1 l_b1
        rintro t H n ⟨f1, f26, b_b1, l_b1⟩
        refine Stk.on ?_
        exact Stk.ln 0 (by decide) (hJ3 _ _ _ ⟨f1, f26.trans (congrArg (fun q => AV.sc (.bool q)) (by rw [hb3]; rfl)), b_b1, l_b1⟩)
    clear f1 f22 b_b1 l_b1
    rintro t H n ⟨f1, f26, b_b1, l_b1⟩
    refine Stk.run 1 (fun t H n => t 1 = .own b1 0 ∧ t 27 = .sc (.bool ((a0.Kind == 0) && (decide (0 ≤ a0.Tag)))) ∧ H b1 = some (.cells (c34 a0) 34) ∧ b1 < n) (fun J hJ => ?_) ?_
    · simp [-splice, f1, f26, b_b1]
      exact hJ _ _ _ ⟨by simp [f1], by simp [-splice, f1, f26, b_b1], b_b1, l_b1⟩
    clear f1 f26 b_b1 l_b1
    rintro t H n ⟨f1, f27, b_b1, l_b1⟩
    refine Stk.jo 4 (fun t H n => t 1 = .own b1 0 ∧ t 31 = .sc (.bool (((a0.Kind == 0) && (decide (0 ≤ a0.Tag))) && (decide (a0.Tag ≤ 15)))) ∧ H b1 = some (.cells (c34 a0) 34) ∧ b1 < n) (fun J4 hJ4 => ?_) ?_
    · rcases Bool.eq_false_or_eq_true ((a0.Kind == 0) && (decide (0 ≤ a0.Tag))) with hb4 | hb4
      · rw [hb4] at f27
        refine Stk.run 4 (fun t H n => t 1 = .own b1 0 ∧ t 31 = .sc (.bool (decide (a0.Tag ≤ 15))) ∧ H b1 = some (.cells (c34 a0) 34) ∧ b1 < n) (fun J hJ => ?_) ?_
        · simp [-splice, f1, f27, b_b1, ld_34_1_3]
          exact hJ _ _ _ ⟨by simp [f1], by simp [-splice, f1, f27, b_b1, ld_34_1_3], b_b1, l_b1⟩
        clear f1 f27 b_b1 l_b1
        rintro t H n ⟨f1, f31, b_b1, l_b1⟩
        refine Stk.on ?_
        exact Stk.ln 0 (by decide) (hJ4 _ _ _ ⟨f1, f31.trans (congrArg (fun q => AV.sc (.bool q)) (by rw [hb4]; rfl)), b_b1, l_b1⟩)
      · rw [hb4] at f27
        refine Stk.run 4 (fun t H n => t 1 = .own b1 0 ∧ t 31 = .sc (.bool false) ∧ H b1 = some (.cells (c34 a0) 34) ∧ b1 < n) (fun J hJ => ?_) ?_
        · simp [-splice, f1, f27, b_b1]
          exact hJ _ _ _ ⟨by simp [f1], by simp [-splice, f1, f27, b_b1], b_b1, l_b1⟩
        clear f1 f27 b_b1 l_b1
        rintro t H n ⟨f1, f31, b_b1, l_b1⟩
        refine Stk.on ?_
        exact Stk.ln 0 (by decide) (hJ4 _ _ _ ⟨f1, f31.trans (congrArg (fun q => AV.sc (.bool q)) (by rw [hb4]; rfl)), b_b1, l_b1⟩)
    clear f1 f27 b_b1 l_b1
    rintro t H n ⟨f1, f31, b_b1, l_b1⟩
    refine Stk.run 1 (fun t H n => t 1 = .own b1 0 ∧ t 32 = .sc (.bool (((a0.Kind == 0) && (decide (0 ≤ a0.Tag))) && (decide (a0.Tag ≤ 15)))) ∧ H b1 = some (.cells (c34 a0) 34) ∧ b1 < n) (fun J hJ => ?_) ?_
    · simp [-splice, f1, f31, b_b1]
      exact hJ _ _ _ ⟨by simp [f1], by simp [-splice, f1, f31, b_b1], b_b1, l_b1⟩
    clear f1 f31 b_b1 l_b1
    rintro t H n ⟨f1, f32, b_b1, l_b1⟩
    refine Stk.jo 4 (fun t H n => t 1 = .own b1 0 ∧ t 36 = .sc (.bool ((((a0.Kind == 0) && (decide (0 ≤ a0.Tag))) && (decide (a0.Tag ≤ 15))) && (decide (1 ≤ a0.Count)))) ∧ H b1 = some (.cells (c34 a0) 34) ∧ b1 < n) (fun J5 hJ5 => ?_) ?_
    · rcases Bool.eq_false_or_eq_true (((a0.Kind == 0) && (decide (0 ≤ a0.Tag))) && (decide (a0.Tag ≤ 15))) with hb5 | hb5
      · rw [hb5] at f32
        refine Stk.run 4 (fun t H n => t 1 = .own b1 0 ∧ t 36 = .sc (.bool (decide (1 ≤ a0.Count))) ∧ H b1 = some (.cells (c34 a0) 34) ∧ b1 < n) (fun J hJ => ?_) ?_
        · simp [-splice, f1, f32, b_b1, ld_34_2_3]
          exact hJ _ _ _ ⟨by simp [f1], by simp [-splice, f1, f32, b_b1, ld_34_2_3], b_b1, l_b1⟩
        clear f1 f32 b_b1 l_b1
        rintro t H n ⟨f1, f36, b_b1, l_b1⟩
        refine Stk.on ?_
        exact Stk.ln 0 (by decide) (hJ5 _ _ _ ⟨f1, f36.trans (congrArg (fun q => AV.sc (.bool q)) (by rw [hb5]; rfl)), b_b1, l_b1⟩)
      · rw [hb5] at f32
        refine Stk.run 4 (fun t H n => t 1 = .own b1 0 ∧ t 36 = .sc (.bool false) ∧ H b1 = some (.cells (c34 a0) 34) ∧ b1 < n) (fun J hJ => ?_) ?_
        · simp [-splice, f1, f32, b_b1]
          exact hJ _ _ _ ⟨by simp [f1], by simp [-splice, f1, f32, b_b1], b_b1, l_b1⟩
        clear f1 f32 b_b1 l_b1
        rintro t H n ⟨f1, f36, b_b1, l_b1⟩
        refine Stk.on ?_
        exact Stk.ln 0 (by decide) (hJ5 _ _ _ ⟨f1, f36.trans (congrArg (fun q => AV.sc (.bool q)) (by rw [hb5]; rfl)), b_b1, l_b1⟩)
    clear f1 f32 b_b1 l_b1
    rintro t H n ⟨f1, f36, b_b1, l_b1⟩
    refine Stk.run 1 (fun t H n => t 1 = .own b1 0 ∧ t 37 = .sc (.bool ((((a0.Kind == 0) && (decide (0 ≤ a0.Tag))) && (decide (a0.Tag ≤ 15))) && (decide (1 ≤ a0.Count)))) ∧ H b1 = some (.cells (c34 a0) 34) ∧ b1 < n) (fun J hJ => ?_) ?_
    · simp [-splice, f1, f36, b_b1]
      exact hJ _ _ _ ⟨by simp [f1], by simp [-splice, f1, f36, b_b1], b_b1, l_b1⟩
    clear f1 f36 b_b1 l_b1
    rintro t H n ⟨f1, f37, b_b1, l_b1⟩
    refine Stk.jo 4 (fun t H n => t 41 = .sc (.bool (((((a0.Kind == 0) && (decide (0 ≤ a0.Tag))) && (decide (a0.Tag ≤ 15))) && (decide (1 ≤ a0.Count))) && (decide (a0.Count ≤ 6))))) (fun J6 hJ6 => ?_) ?_
    · rcases Bool.eq_false_or_eq_true ((((a0.Kind == 0) && (decide (0 ≤ a0.Tag))) && (decide (a0.Tag ≤ 15))) && (decide (1 ≤ a0.Count))) with hb6 | hb6
      · rw [hb6] at f37
        refine Stk.run 4 (fun t H n => t 41 = .sc (.bool (decide (a0.Count ≤ 6)))) (fun J hJ => ?_) ?_
        · simp [-splice, f1, f37, b_b1, ld_34_2_3]
          exact hJ _ _ _ (by simp [-splice, f1, f37, b_b1, ld_34_2_3])
        clear f1 f37 b_b1 l_b1
        rintro t H n f41
        refine Stk.on ?_
        exact Stk.ln 0 (by decide) (hJ6 _ _ _ (f41.trans (congrArg (fun q => AV.sc (.bool q)) (by rw [hb6]; rfl))))
      · rw [hb6] at f37
        refine Stk.run 4 (fun t H n => t 41 = .sc (.bool false)) (fun J hJ => ?_) ?_
        · simp [-splice, f1, f37, b_b1]
          exact hJ _ _ _ (by simp [-splice, f1, f37, b_b1])
        clear f1 f37 b_b1 l_b1
        rintro t H n f41
        refine Stk.on ?_
        exact Stk.ln 0 (by decide) (hJ6 _ _ _ (f41.trans (congrArg (fun q => AV.sc (.bool q)) (by rw [hb6]; rfl))))
    clear f1 f37 b_b1 l_b1
    rintro t H n f41
    refine Stk.run 1 (fun t H n => t 2 = .sc (.bool (((((a0.Kind == 0) && (decide (0 ≤ a0.Tag))) && (decide (a0.Tag ≤ 15))) && (decide (1 ≤ a0.Count))) && (decide (a0.Count ≤ 6))))) (fun J hJ => ?_) ?_
    · simp [-splice, f41]
      exact hJ _ _ _ (by simp [-splice, f41])
    clear f41
    rintro t H n f2
    refine Stk.on ?_
    refine Stk.rt ?_
    have hq := Option.some.inj h; subst hq
    exact (hr _ _ _ (.sc (.bool (((((a0.Kind == 0) && (decide (0 ≤ a0.Tag))) && (decide (a0.Tag ≤ 15))) && (decide (1 ≤ a0.Count))) && (decide (a0.Count ≤ 6))))) ([]) (by simp [f2]) (.inr (.inr (.free (rfl))))).1
theorem ok_R16_Size (F : Nat) (a0 : api_Head) (r : Int) (h : R16_Size F a0 = some r) : RunF Try.prog T.T 36 [.agg (c34 a0)] (.sc (.int .i64 r)) := by
  rw [R16_Size] at h
  refine RunF.z Try.func36 rfl rfl rfl rfl rfl (fun C hr => ?_)
  refine Stk.gen (fun t H n => t 0 = .agg (c34 a0)) (by simp) ?_
  rintro t H n f0
  refine Stk.sq ?_
  refine Stk.rg ?_
  refine Stk.om (mop_box T.t34 (cs := c34 a0) (by show partOk (t 0) = true; rw [f0]; rfl) (by show cellsOf (t 0) = _; rw [f0]; rfl)) (by simp [f0]) rfl (fun t' ht' => ?_)
  refine Stk.gen (fun t H n => ∃ b1, t 1 = .own b1 0 ∧ H b1 = some (.cells (c34 a0) 34) ∧ b1 < n) ⟨n, by simp [ht'], upd_same _ _ _, Nat.lt_succ_self _⟩ ?_
  clear f0 ht' t'
  rintro t H n ⟨b1, f1, b_b1, l_b1⟩
  refine Stk.run 1 (fun t H n => t 1 = .own b1 0 ∧ H b1 = some (.cells (c34 a0) 34) ∧ b1 < n) (fun J hJ => ?_) ?_
  · simp [-splice, f1, b_b1]
    exact hJ _ _ _ ⟨by simp [f1], b_b1, l_b1⟩
  clear f1 b_b1 l_b1
  rintro t H n ⟨f1, b_b1, l_b1⟩
  refine Stk.on ?_
  refine Stk.sq ?_
  refine Stk.sq ?_
  refine Stk.rg ?_
  refine Stk.run 1 (fun t H n => t 1 = .own b1 0 ∧ t 3 = .agg (c34 a0) ∧ H b1 = some (.cells (c34 a0) 34) ∧ b1 < n) (fun J hJ => ?_) ?_
  · simp [-splice, f1, b_b1, ld_34_0_34]
    exact hJ _ _ _ ⟨by simp [f1], by simp [-splice, f1, b_b1, ld_34_0_34], b_b1, l_b1⟩
  clear f1 b_b1 l_b1
  rintro t H n ⟨f1, f3, b_b1, l_b1⟩
  obtain ⟨x2, hx2, h⟩ := bnd h
  refine Stk.cv (g := 92) (args := [.agg (c34 a0)]) (args' := [.agg (c34 a0)]) (v := .sc (.bool x2)) [] (ok_R16_can F _ _ hx2) (by simp [f1, f3]) rfl rfl (by simp [f1, f3]) (.cons (.free (fr34 _)) (.nil)) (.inl ⟨rfl, rfl⟩) (fun t' ht' => ?_)
  refine Stk.gen (fun t H n => t 1 = .own b1 0 ∧ t 4 = .sc (.bool x2) ∧ H b1 = some (.cells (c34 a0) 34) ∧ b1 < n) ⟨by simp [ht', f1], by simp [ht'], b_b1, l_b1⟩ ?_
  clear f1 f3 b_b1 l_b1 ht' t'
  rintro t H n ⟨f1, f4, b_b1, l_b1⟩
  refine Stk.run 1 (fun t H n => t 1 = .own b1 0 ∧ t 5 = .sc (.bool (!x2)) ∧ H b1 = some (.cells (c34 a0) 34) ∧ b1 < n) (fun J hJ => ?_) ?_
  · simp [-splice, f1, f4, b_b1]
    exact hJ _ _ _ ⟨by simp [f1], by simp [-splice, f1, f4, b_b1], b_b1, l_b1⟩
  clear f1 f4 b_b1 l_b1
  rintro t H n ⟨f1, f5, b_b1, l_b1⟩
  refine Stk.on ?_
  refine Stk.cond (!x2) (by exact f5) (fun hb3 => ?_) (fun hb3 => ?_)
  · have h := cT hb3 h
    refine Stk.sq ?_
    refine Stk.rg ?_
    refine Stk.run 1 (fun t H n => t 2 = .sc (.int .i64 0)) (fun J hJ => ?_) ?_
    · simp [-splice, f1, f5, b_b1]
      exact hJ _ _ _ (by simp [-splice, f1, f5, b_b1])
    clear f1 f5 b_b1 l_b1
    rintro t H n f2
    refine Stk.on ?_
    refine Stk.rt ?_
    have hq := Option.some.inj h; subst hq
    exact (hr _ _ _ (.sc (.int .i64 0)) ([]) (by simp [f2]) (.inr (.inr (.free (rfl))))).1
  · have h := cF hb3 h
    refine Stk.sk ?_
    refine Stk.sq ?_
    refine Stk.sq ?_
    refine Stk.rg ?_
    refine Stk.run 3 (fun t H n => t 1 = .own b1 0 ∧ t 8 = .sc (.bool (a0.Kind == 1)) ∧ H b1 = some (.cells (c34 a0) 34) ∧ b1 < n) (fun J hJ => ?_) ?_
    · simp [-splice, f1, f5, b_b1, ld_34_0_3]
      exact hJ _ _ _ ⟨by simp [f1], by simp [-splice, f1, f5, b_b1, ld_34_0_3], b_b1, l_b1⟩
    clear f1 f5 b_b1 l_b1
    rintro t H n ⟨f1, f8, b_b1, l_b1⟩
    refine Stk.on ?_
    refine Stk.cond (a0.Kind == 1) (by exact f8) (fun hb4 => ?_) (fun hb4 => ?_)
    · have h := cT hb4 h
      refine Stk.sq ?_
      refine Stk.rg ?_
      refine Stk.run 6 (fun t H n => t 2 = .sc (.int .i64 (IntKind.i64.wrap (2 + (IntKind.i64.wrap ((IntKind.i64.wrap (a0.Count + 7)).tdiv 8)))))) (fun J hJ => ?_) ?_
      · simp [-splice, f1, f8, b_b1, ld_34_2_3]
        exact hJ _ _ _ (by simp [-splice, f1, f8, b_b1, ld_34_2_3])
      clear f1 f8 b_b1 l_b1
      rintro t H n f2
      refine Stk.on ?_
      refine Stk.rt ?_
      have hq := Option.some.inj h; subst hq
      exact (hr _ _ _ (.sc (.int .i64 (IntKind.i64.wrap (2 + (IntKind.i64.wrap ((IntKind.i64.wrap (a0.Count + 7)).tdiv 8)))))) ([]) (by simp [f2]) (.inr (.inr (.free (rfl))))).1
    · have h := cF hb4 h
      refine Stk.sk ?_
      refine Stk.sq ?_
      refine Stk.rg ?_
      refine Stk.run 4 (fun t H n => t 2 = .sc (.int .i64 (IntKind.i64.wrap (2 + a0.Count)))) (fun J hJ => ?_) ?_
      · simp [-splice, f1, f8, b_b1, ld_34_2_3]
        exact hJ _ _ _ (by simp [-splice, f1, f8, b_b1, ld_34_2_3])
      clear f1 f8 b_b1 l_b1
      rintro t H n f2
      refine Stk.on ?_
      refine Stk.rt ?_
      have hq := Option.some.inj h; subst hq
      exact (hr _ _ _ (.sc (.int .i64 (IntKind.i64.wrap (2 + a0.Count)))) ([]) (by simp [f2]) (.inr (.inr (.free (rfl))))).1
theorem ok_R17_Words (F : Nat) (a0 : (List api_Node)) (r : Int) (h : R17_Words F a0 = some r) : RunF Try.prog T.T 33 [.ssl (encs c37 a0) a0.length false] (.sc (.int .i64 r)) := by
  rw [R17_Words] at h
  refine RunF.z Try.func33 rfl rfl rfl rfl rfl (fun C hr => ?_)
  refine Stk.gen (fun t H n => t 0 = .ssl (encs c37 a0) a0.length false) (by simp) ?_
  rintro t H n f0
  refine Stk.sq ?_
  refine Stk.rg ?_
  refine Stk.run 1 (fun t H n => t 0 = .ssl (encs c37 a0) a0.length false) (fun J hJ => ?_) ?_
  · simp [-splice, f0]
    exact hJ _ _ _ (by simp [f0])
  clear f0
  rintro t H n f0
  refine Stk.on ?_
  refine Stk.sq ?_
  refine Stk.rg ?_
  refine Stk.run 1 (fun t H n => t 0 = .ssl (encs c37 a0) a0.length false ∧ t 3 = .sc (.int .i64 0)) (fun J hJ => ?_) ?_
  · simp [-splice, f0]
    exact hJ _ _ _ ⟨by simp [f0], by simp [-splice, f0]⟩
  clear f0
  rintro t H n ⟨f0, f3⟩
  refine Stk.on ?_
  refine Stk.sq ?_
  refine Stk.sq ?_
  refine Stk.rg ?_
  refine Stk.run 1 (fun t H n => t 0 = .ssl (encs c37 a0) a0.length false ∧ t 3 = .sc (.int .i64 0) ∧ t 4 = .sc (.int .i64 0)) (fun J hJ => ?_) ?_
  · simp [-splice, f0, f3]
    exact hJ _ _ _ ⟨by simp [f0], by simp [f3], by simp [-splice, f0, f3]⟩
  clear f0 f3
  rintro t H n ⟨f0, f3, f4⟩
  refine Stk.on ?_
  refine Stk.bk ?_
  refine Stk.lo (fun μ t H n => ∃ v1 : Int, ∃ v2 : Int, R17_Words_L0 F a0 μ v1 v2 = some r ∧ t 0 = .ssl (encs c37 a0) a0.length false ∧ t 3 = .sc (.int .i64 v1) ∧ t 4 = .sc (.int .i64 v2)) F ⟨0, 0, h, f0, f3, f4⟩ ?_
  clear h f0 f3 f4
  rintro J1 hJ1 μ t H n ⟨v1, v2, h, f0, f3, f4⟩
  cases μ with
  | zero => exact absurd h (by simp [R17_Words_L0])
  | succ μ =>
  rw [R17_Words_L0] at h
  refine Stk.sq ?_
  refine Stk.sq ?_
  refine Stk.rg ?_
  refine Stk.run 4 (fun t H n => t 0 = .ssl (encs c37 a0) a0.length false ∧ t 3 = .sc (.int .i64 v1) ∧ t 4 = .sc (.int .i64 v2) ∧ t 8 = .sc (.bool (decide (v2 < (a0.length : Int))))) (fun J hJ => ?_) ?_
  · simp [-splice, f0, f3, f4]
    exact hJ _ _ _ ⟨by simp [f0], by simp [f3], by simp [f4], by simp [-splice, f0, f3, f4]⟩
  clear f0 f3 f4
  rintro t H n ⟨f0, f3, f4, f8⟩
  refine Stk.on ?_
  refine Stk.cond (decide (v2 < (a0.length : Int))) (by exact f8) (fun hb5 => ?_) (fun hb5 => ?_)
  · have h := cT hb5 h
    refine Stk.sk ?_
    refine Stk.sq ?_
    refine Stk.bk ?_
    refine Stk.rg ?_
    obtain ⟨x6, hx6, h⟩ := bnd h
    obtain ⟨i0x6, i1x6, i2x6, _⟩ := idx_ok hx6
    have ex6_0_34 : partOf T.T 34 (encs c37 a0) (v2.toNat * 5) = some (.agg (c34 x6.Head)) := by
        have e0 := part_elem0 (e := c37) (z := 5) (T := T.T) (ty := 34) T.t34 (by decide) (by decide) hx6 0 (by decide)
        (try simp only [Nat.mul_one, Nat.add_zero] at e0)
        exact e0.trans (ld_37_0_34 _)
    refine Stk.run 6 (fun t H n => t 0 = .ssl (encs c37 a0) a0.length false ∧ t 4 = .sc (.int .i64 v2) ∧ t 11 = .sc (.int .i64 v1) ∧ t 16 = .agg (c34 x6.Head)) (fun J hJ => ?_) ?_
    · simp [-splice, f0, f3, f4, f8, i0x6, i1x6, pd34, ex6_0_34]
      exact hJ _ _ _ ⟨by simp [f0], by simp [f4], by simp [-splice, f0, f3, f4, f8, i0x6, i1x6, pd34, ex6_0_34], by simp [-splice, f0, f3, f4, f8, i0x6, i1x6, pd34, ex6_0_34]⟩
    clear f0 f3 f4 f8
    rintro t H n ⟨f0, f4, f11, f16⟩
    obtain ⟨x7, hx7, h⟩ := bnd h
    refine Stk.cv (g := 36) (args := [.agg (c34 x6.Head)]) (args' := [.agg (c34 x6.Head)]) (v := .sc (.int .i64 x7)) [] (ok_R16_Size F _ _ hx7) (by simp [f0, f4, f11, f16]) rfl rfl (by simp [f0, f4, f11, f16]) (.cons (.free (fr34 _)) (.nil)) (.inl ⟨rfl, rfl⟩) (fun t' ht' => ?_)
    refine Stk.gen (fun t H n => t 0 = .ssl (encs c37 a0) a0.length false ∧ t 4 = .sc (.int .i64 v2) ∧ t 11 = .sc (.int .i64 v1) ∧ t 17 = .sc (.int .i64 x7)) ⟨by simp [ht', f0], by simp [ht', f4], by simp [ht', f11], by simp [ht']⟩ ?_
    clear f0 f4 f11 f16 ht' t'
    rintro t H n ⟨f0, f4, f11, f17⟩
    refine Stk.run 2 (fun t H n => t 0 = .ssl (encs c37 a0) a0.length false ∧ t 3 = .sc (.int .i64 (IntKind.i64.wrap (v1 + x7))) ∧ t 4 = .sc (.int .i64 v2)) (fun J hJ => ?_) ?_
    · simp [-splice, f0, f4, f11, f17]
      exact hJ _ _ _ ⟨by simp [f0], by simp [-splice, f0, f4, f11, f17], by simp [f4]⟩
    clear f0 f4 f11 f17
    rintro t H n ⟨f0, f3, f4⟩
    refine Stk.on ?_
    refine Stk.bn ?_
    refine Stk.rg ?_
    refine Stk.run 3 (fun t H n => t 0 = .ssl (encs c37 a0) a0.length false ∧ t 3 = .sc (.int .i64 (IntKind.i64.wrap (v1 + x7))) ∧ t 4 = .sc (.int .i64 (IntKind.i64.wrap (v2 + 1)))) (fun J hJ => ?_) ?_
    · simp [-splice, f0, f3, f4]
      exact hJ _ _ _ ⟨by simp [f0], by simp [f3], by simp [-splice, f0, f3, f4]⟩
    clear f0 f3 f4
    rintro t H n ⟨f0, f3, f4⟩
    refine Stk.on ?_
    exact Stk.ln μ (Nat.lt_succ_self _) (hJ1 _ _ _ _ ⟨(IntKind.i64.wrap (v1 + x7)), (IntKind.i64.wrap (v2 + 1)), h, f0, f3, f4⟩)
  · have h := cF hb5 h
    refine Stk.ex rfl ?_
    refine Stk.sq ?_
    refine Stk.rg ?_
    refine Stk.run 2 (fun t H n => t 2 = .sc (.int .i64 v1)) (fun J hJ => ?_) ?_
    · simp [-splice, f0, f3, f4, f8]
      exact hJ _ _ _ (by simp [-splice, f0, f3, f4, f8])
    clear f0 f3 f4 f8
    rintro t H n f2
    refine Stk.on ?_
    refine Stk.rt ?_
    have hq := Option.some.inj h; subst hq
    exact (hr _ _ _ (.sc (.int .i64 v1)) ([]) (by simp [f2]) (.inr (.inr (.free (rfl))))).1
theorem ok_graph_whole (F : Nat) (a0 : api_Node) (r : Bool) (h : graph_whole F a0 = some r) : RunF Try.prog T.T 136 [.agg (c37 a0)] (.sc (.bool r)) := by
  rw [graph_whole] at h
  refine RunF.z Try.func136 rfl rfl rfl rfl rfl (fun C hr => ?_)
  refine Stk.gen (fun t H n => t 0 = .agg (c37 a0)) (by simp) ?_
  rintro t H n f0
  refine Stk.sq ?_
  refine Stk.rg ?_
  refine Stk.om (mop_box T.t37 (cs := c37 a0) (by show partOk (t 0) = true; rw [f0]; rfl) (by show cellsOf (t 0) = _; rw [f0]; rfl)) (by simp [f0]) rfl (fun t' ht' => ?_)
  refine Stk.gen (fun t H n => ∃ b1, t 1 = .own b1 0 ∧ H b1 = some (.cells (c37 a0) 37) ∧ b1 < n) ⟨n, by simp [ht'], upd_same _ _ _, Nat.lt_succ_self _⟩ ?_
  clear f0 ht' t'
  rintro t H n ⟨b1, f1, b_b1, l_b1⟩
  refine Stk.run 1 (fun t H n => t 1 = .own b1 0 ∧ H b1 = some (.cells (c37 a0) 37) ∧ b1 < n) (fun J hJ => ?_) ?_
  · simp [-splice, f1, b_b1]
    exact hJ _ _ _ ⟨by simp [f1], b_b1, l_b1⟩
  clear f1 b_b1 l_b1
  rintro t H n ⟨f1, b_b1, l_b1⟩
  refine Stk.on ?_
  refine Stk.sq ?_
  refine Stk.bk ?_
  refine Stk.sq ?_
  refine Stk.rg ?_
  refine Stk.run 2 (fun t H n => t 1 = .own b1 0 ∧ t 5 = .agg (c34 a0.Head) ∧ H b1 = some (.cells (c37 a0) 37) ∧ b1 < n) (fun J hJ => ?_) ?_
  · simp [-splice, f1, b_b1, ld_37_0_34]
    exact hJ _ _ _ ⟨by simp [f1], by simp [-splice, f1, b_b1, ld_37_0_34], b_b1, l_b1⟩
  clear f1 b_b1 l_b1
  rintro t H n ⟨f1, f5, b_b1, l_b1⟩
  obtain ⟨x2, hx2, h⟩ := bnd h
  refine Stk.cv (g := 49) (args := [.agg (c34 a0.Head)]) (args' := [.agg (c34 a0.Head)]) (v := .sc (.int .i64 x2)) [] (ok_heap_Size F _ _ hx2) (by simp [f1, f5]) rfl rfl (by simp [f1, f5]) (.cons (.free (fr34 _)) (.nil)) (.inl ⟨rfl, rfl⟩) (fun t' ht' => ?_)
  refine Stk.gen (fun t H n => t 1 = .own b1 0 ∧ t 6 = .sc (.int .i64 x2) ∧ H b1 = some (.cells (c37 a0) 37) ∧ b1 < n) ⟨by simp [ht', f1], by simp [ht'], b_b1, l_b1⟩ ?_
  clear f1 f5 b_b1 l_b1 ht' t'
  rintro t H n ⟨f1, f6, b_b1, l_b1⟩
  refine Stk.run 2 (fun t H n => t 1 = .own b1 0 ∧ t 3 = .sc (.bool (x2 == 0)) ∧ H b1 = some (.cells (c37 a0) 37) ∧ b1 < n) (fun J hJ => ?_) ?_
  · simp [-splice, f1, f6, b_b1]
    exact hJ _ _ _ ⟨by simp [f1], by simp [-splice, f1, f6, b_b1], b_b1, l_b1⟩
  clear f1 f6 b_b1 l_b1
  rintro t H n ⟨f1, f3, b_b1, l_b1⟩
  refine Stk.on ?_
  refine Stk.cond (x2 == 0) (by exact f3) (fun hb3 => ?_) (fun hb3 => ?_)
  · have h := cT hb3 h
    refine Stk.sq ?_
    refine Stk.rg ?_
    refine Stk.run 1 (fun t H n => t 2 = .sc (.bool false)) (fun J hJ => ?_) ?_
    · simp [-splice, f1, f3, b_b1]
      exact hJ _ _ _ (by simp [-splice, f1, f3, b_b1])
    clear f1 f3 b_b1 l_b1
    rintro t H n f2
    refine Stk.on ?_
    refine Stk.rt ?_
    have hq := Option.some.inj h; subst hq
    exact (hr _ _ _ (.sc (.bool false)) ([]) (by simp [f2]) (.inr (.inr (.free (rfl))))).1
  · have h := cF hb3 h
    refine Stk.sq ?_
    refine Stk.rg ?_
    refine Stk.run 5 (fun t H n => t 1 = .own b1 0 ∧ t 8 = .sc (.bool (a0.Head.Kind == 1)) ∧ H b1 = some (.cells (c37 a0) 37) ∧ b1 < n) (fun J hJ => ?_) ?_
    · simp [-splice, f1, f3, b_b1, ld_37_0_3]
      exact hJ _ _ _ ⟨by simp [f1], by simp [-splice, f1, f3, b_b1, ld_37_0_3], b_b1, l_b1⟩
    clear f1 f3 b_b1 l_b1
    rintro t H n ⟨f1, f8, b_b1, l_b1⟩
    refine Stk.on ?_
    refine Stk.cond (a0.Head.Kind == 1) (by exact f8) (fun hb4 => ?_) (fun hb4 => ?_)
    · have h := cT hb4 h
      refine Stk.sq ?_
      refine Stk.rg ?_
      refine Stk.run 5 (fun t H n => t 1 = .own b1 0 ∧ t 17 = .sc (.bool ((a0.Kids.length : Int) == 0)) ∧ H b1 = some (.cells (c37 a0) 37) ∧ b1 < n) (fun J hJ => ?_) ?_
      · simp [-splice, f1, f8, b_b1, ld_37_4_23]
        exact hJ _ _ _ ⟨by simp [f1], by simp [-splice, f1, f8, b_b1, ld_37_4_23], b_b1, l_b1⟩
      clear f1 f8 b_b1 l_b1
      rintro t H n ⟨f1, f17, b_b1, l_b1⟩
      refine Stk.jo 8 (fun t H n => t 25 = .sc (.bool (((a0.Kids.length : Int) == 0) && ((a0.Bytes.length : Int) == a0.Head.Count)))) (fun J1 hJ1 => ?_) ?_
      · rcases Bool.eq_false_or_eq_true ((a0.Kids.length : Int) == 0) with hb1 | hb1
        · rw [hb1] at f17
          refine Stk.run 8 (fun t H n => t 25 = .sc (.bool ((a0.Bytes.length : Int) == a0.Head.Count))) (fun J hJ => ?_) ?_
          · simp [-splice, f1, f17, b_b1, ld_37_3_35, ld_37_2_3]
            exact hJ _ _ _ (by simp [-splice, f1, f17, b_b1, ld_37_3_35, ld_37_2_3])
          clear f1 f17 b_b1 l_b1
          rintro t H n f25
          refine Stk.on ?_
          exact Stk.ln 0 (by decide) (hJ1 _ _ _ (f25.trans (congrArg (fun q => AV.sc (.bool q)) (by rw [hb1]; rfl))))
        · rw [hb1] at f17
          refine Stk.run 8 (fun t H n => t 25 = .sc (.bool false)) (fun J hJ => ?_) ?_
          · simp [-splice, f1, f17, b_b1]
            exact hJ _ _ _ (by simp [-splice, f1, f17, b_b1])
          clear f1 f17 b_b1 l_b1
          rintro t H n f25
          refine Stk.on ?_
          exact Stk.ln 0 (by decide) (hJ1 _ _ _ (f25.trans (congrArg (fun q => AV.sc (.bool q)) (by rw [hb1]; rfl))))
      clear f1 f17 b_b1 l_b1
      rintro t H n f25
      refine Stk.run 1 (fun t H n => t 2 = .sc (.bool (((a0.Kids.length : Int) == 0) && ((a0.Bytes.length : Int) == a0.Head.Count)))) (fun J hJ => ?_) ?_
      · simp [-splice, f25]
        exact hJ _ _ _ (by simp [-splice, f25])
      clear f25
      rintro t H n f2
      refine Stk.on ?_
      refine Stk.rt ?_
      have hq := Option.some.inj h; subst hq
      exact (hr _ _ _ (.sc (.bool (((a0.Kids.length : Int) == 0) && ((a0.Bytes.length : Int) == a0.Head.Count)))) ([]) (by simp [f2]) (.inr (.inr (.free (rfl))))).1
    · have h := cF hb4 h
      refine Stk.sk ?_
      refine Stk.bn ?_
      refine Stk.sq ?_
      refine Stk.rg ?_
      refine Stk.run 5 (fun t H n => t 1 = .own b1 0 ∧ t 30 = .sc (.bool ((a0.Bytes.length : Int) == 0)) ∧ H b1 = some (.cells (c37 a0) 37) ∧ b1 < n) (fun J hJ => ?_) ?_
      · simp [-splice, f1, f8, b_b1, ld_37_3_35]
        exact hJ _ _ _ ⟨by simp [f1], by simp [-splice, f1, f8, b_b1, ld_37_3_35], b_b1, l_b1⟩
      clear f1 f8 b_b1 l_b1
      rintro t H n ⟨f1, f30, b_b1, l_b1⟩
      refine Stk.jo 8 (fun t H n => t 38 = .sc (.bool (((a0.Bytes.length : Int) == 0) && ((a0.Kids.length : Int) == a0.Head.Count)))) (fun J2 hJ2 => ?_) ?_
      · rcases Bool.eq_false_or_eq_true ((a0.Bytes.length : Int) == 0) with hb2 | hb2
        · rw [hb2] at f30
          refine Stk.run 8 (fun t H n => t 38 = .sc (.bool ((a0.Kids.length : Int) == a0.Head.Count))) (fun J hJ => ?_) ?_
          · simp [-splice, f1, f30, b_b1, ld_37_4_23, ld_37_2_3]
            exact hJ _ _ _ (by simp [-splice, f1, f30, b_b1, ld_37_4_23, ld_37_2_3])
          clear f1 f30 b_b1 l_b1
          rintro t H n f38
          refine Stk.on ?_
          exact Stk.ln 0 (by decide) (hJ2 _ _ _ (f38.trans (congrArg (fun q => AV.sc (.bool q)) (by rw [hb2]; rfl))))
        · rw [hb2] at f30
          refine Stk.run 8 (fun t H n => t 38 = .sc (.bool false)) (fun J hJ => ?_) ?_
          · simp [-splice, f1, f30, b_b1]
            exact hJ _ _ _ (by simp [-splice, f1, f30, b_b1])
          clear f1 f30 b_b1 l_b1
          rintro t H n f38
          refine Stk.on ?_
          exact Stk.ln 0 (by decide) (hJ2 _ _ _ (f38.trans (congrArg (fun q => AV.sc (.bool q)) (by rw [hb2]; rfl))))
      clear f1 f30 b_b1 l_b1
      rintro t H n f38
      refine Stk.run 1 (fun t H n => t 2 = .sc (.bool (((a0.Bytes.length : Int) == 0) && ((a0.Kids.length : Int) == a0.Head.Count)))) (fun J hJ => ?_) ?_
      · simp [-splice, f38]
        exact hJ _ _ _ (by simp [-splice, f38])
      clear f38
      rintro t H n f2
      refine Stk.on ?_
      refine Stk.rt ?_
      have hq := Option.some.inj h; subst hq
      exact (hr _ _ _ (.sc (.bool (((a0.Bytes.length : Int) == 0) && ((a0.Kids.length : Int) == a0.Head.Count)))) ([]) (by simp [f2]) (.inr (.inr (.free (rfl))))).1
theorem ok_R17_node (F : Nat) (a0 : api_Node) (r : Bool) (h : R17_node F a0 = some r) : RunF Try.prog T.T 151 [.agg (c37 a0)] (.sc (.bool r)) := by
  rw [R17_node] at h
  refine RunF.z Try.func151 rfl rfl rfl rfl rfl (fun C hr => ?_)
  refine Stk.gen (fun t H n => t 0 = .agg (c37 a0)) (by simp) ?_
  rintro t H n f0
  refine Stk.sq ?_
  refine Stk.rg ?_
  refine Stk.om (mop_box T.t37 (cs := c37 a0) (by show partOk (t 0) = true; rw [f0]; rfl) (by show cellsOf (t 0) = _; rw [f0]; rfl)) (by simp [f0]) rfl (fun t' ht' => ?_)
  refine Stk.gen (fun t H n => ∃ b1, t 1 = .own b1 0 ∧ H b1 = some (.cells (c37 a0) 37) ∧ b1 < n) ⟨n, by simp [ht'], upd_same _ _ _, Nat.lt_succ_self _⟩ ?_
  clear f0 ht' t'
  rintro t H n ⟨b1, f1, b_b1, l_b1⟩
  refine Stk.run 1 (fun t H n => t 1 = .own b1 0 ∧ H b1 = some (.cells (c37 a0) 37) ∧ b1 < n) (fun J hJ => ?_) ?_
  · simp [-splice, f1, b_b1]
    exact hJ _ _ _ ⟨by simp [f1], b_b1, l_b1⟩
  clear f1 b_b1 l_b1
  rintro t H n ⟨f1, b_b1, l_b1⟩
  refine Stk.on ?_
  refine Stk.sq ?_
  refine Stk.sq ?_
  refine Stk.rg ?_
  refine Stk.run 2 (fun t H n => t 1 = .own b1 0 ∧ t 4 = .agg (c34 a0.Head) ∧ H b1 = some (.cells (c37 a0) 37) ∧ b1 < n) (fun J hJ => ?_) ?_
  · simp [-splice, f1, b_b1, ld_37_0_34]
    exact hJ _ _ _ ⟨by simp [f1], by simp [-splice, f1, b_b1, ld_37_0_34], b_b1, l_b1⟩
  clear f1 b_b1 l_b1
  rintro t H n ⟨f1, f4, b_b1, l_b1⟩
  obtain ⟨x2, hx2, h⟩ := bnd h
  refine Stk.cv (g := 36) (args := [.agg (c34 a0.Head)]) (args' := [.agg (c34 a0.Head)]) (v := .sc (.int .i64 x2)) [] (ok_R16_Size F _ _ hx2) (by simp [f1, f4]) rfl rfl (by simp [f1, f4]) (.cons (.free (fr34 _)) (.nil)) (.inl ⟨rfl, rfl⟩) (fun t' ht' => ?_)
  refine Stk.gen (fun t H n => t 1 = .own b1 0 ∧ t 5 = .sc (.int .i64 x2) ∧ H b1 = some (.cells (c37 a0) 37) ∧ b1 < n) ⟨by simp [ht', f1], by simp [ht'], b_b1, l_b1⟩ ?_
  clear f1 f4 b_b1 l_b1 ht' t'
  rintro t H n ⟨f1, f5, b_b1, l_b1⟩
  refine Stk.run 1 (fun t H n => t 1 = .own b1 0 ∧ t 6 = .sc (.bool (x2 == 0)) ∧ H b1 = some (.cells (c37 a0) 37) ∧ b1 < n) (fun J hJ => ?_) ?_
  · simp [-splice, f1, f5, b_b1]
    exact hJ _ _ _ ⟨by simp [f1], by simp [-splice, f1, f5, b_b1], b_b1, l_b1⟩
  clear f1 f5 b_b1 l_b1
  rintro t H n ⟨f1, f6, b_b1, l_b1⟩
  refine Stk.on ?_
  refine Stk.cond (x2 == 0) (by exact f6) (fun hb3 => ?_) (fun hb3 => ?_)
  · have h := cT hb3 h
    refine Stk.sq ?_
    refine Stk.rg ?_
    refine Stk.run 1 (fun t H n => t 2 = .sc (.bool false)) (fun J hJ => ?_) ?_
    · simp [-splice, f1, f6, b_b1]
      exact hJ _ _ _ (by simp [-splice, f1, f6, b_b1])
    clear f1 f6 b_b1 l_b1
    rintro t H n f2
    refine Stk.on ?_
    refine Stk.rt ?_
    have hq := Option.some.inj h; subst hq
    exact (hr _ _ _ (.sc (.bool false)) ([]) (by simp [f2]) (.inr (.inr (.free (rfl))))).1
  · have h := cF hb3 h
    refine Stk.sk ?_
    refine Stk.sq ?_
    refine Stk.sq ?_
    refine Stk.rg ?_
    refine Stk.run 4 (fun t H n => t 1 = .own b1 0 ∧ t 10 = .sc (.bool (a0.Head.Kind == 1)) ∧ H b1 = some (.cells (c37 a0) 37) ∧ b1 < n) (fun J hJ => ?_) ?_
    · simp [-splice, f1, f6, b_b1, ld_37_0_3]
      exact hJ _ _ _ ⟨by simp [f1], by simp [-splice, f1, f6, b_b1, ld_37_0_3], b_b1, l_b1⟩
    clear f1 f6 b_b1 l_b1
    rintro t H n ⟨f1, f10, b_b1, l_b1⟩
    refine Stk.on ?_
    refine Stk.cond (a0.Head.Kind == 1) (by exact f10) (fun hb4 => ?_) (fun hb4 => ?_)
    · have h := cT hb4 h
      refine Stk.sq ?_
      refine Stk.rg ?_
      refine Stk.run 8 (fun t H n => t 1 = .own b1 0 ∧ t 18 = .sc (.bool ((a0.Bytes.length : Int) == a0.Head.Count)) ∧ H b1 = some (.cells (c37 a0) 37) ∧ b1 < n) (fun J hJ => ?_) ?_
      · simp [-splice, f1, f10, b_b1, ld_37_3_35, ld_37_2_3]
        exact hJ _ _ _ ⟨by simp [f1], by simp [-splice, f1, f10, b_b1, ld_37_3_35, ld_37_2_3], b_b1, l_b1⟩
      clear f1 f10 b_b1 l_b1
      rintro t H n ⟨f1, f18, b_b1, l_b1⟩
      refine Stk.jo 5 (fun t H n => t 23 = .sc (.bool (((a0.Bytes.length : Int) == a0.Head.Count) && ((a0.Kids.length : Int) == 0)))) (fun J1 hJ1 => ?_) ?_
      · rcases Bool.eq_false_or_eq_true ((a0.Bytes.length : Int) == a0.Head.Count) with hb1 | hb1
        · rw [hb1] at f18
          refine Stk.run 5 (fun t H n => t 23 = .sc (.bool ((a0.Kids.length : Int) == 0))) (fun J hJ => ?_) ?_
          · simp [-splice, f1, f18, b_b1, ld_37_4_23]
            exact hJ _ _ _ (by simp [-splice, f1, f18, b_b1, ld_37_4_23])
          clear f1 f18 b_b1 l_b1
          rintro t H n f23
          refine Stk.on ?_
          exact Stk.ln 0 (by decide) (hJ1 _ _ _ (f23.trans (congrArg (fun q => AV.sc (.bool q)) (by rw [hb1]; rfl))))
        · rw [hb1] at f18
          refine Stk.run 5 (fun t H n => t 23 = .sc (.bool false)) (fun J hJ => ?_) ?_
          · simp [-splice, f1, f18, b_b1]
            exact hJ _ _ _ (by simp [-splice, f1, f18, b_b1])
          clear f1 f18 b_b1 l_b1
          rintro t H n f23
          refine Stk.on ?_
          exact Stk.ln 0 (by decide) (hJ1 _ _ _ (f23.trans (congrArg (fun q => AV.sc (.bool q)) (by rw [hb1]; rfl))))
      clear f1 f18 b_b1 l_b1
      rintro t H n f23
      refine Stk.run 1 (fun t H n => t 2 = .sc (.bool (((a0.Bytes.length : Int) == a0.Head.Count) && ((a0.Kids.length : Int) == 0)))) (fun J hJ => ?_) ?_
      · simp [-splice, f23]
        exact hJ _ _ _ (by simp [-splice, f23])
      clear f23
      rintro t H n f2
      refine Stk.on ?_
      refine Stk.rt ?_
      have hq := Option.some.inj h; subst hq
      exact (hr _ _ _ (.sc (.bool (((a0.Bytes.length : Int) == a0.Head.Count) && ((a0.Kids.length : Int) == 0)))) ([]) (by simp [f2]) (.inr (.inr (.free (rfl))))).1
    · have h := cF hb4 h
      refine Stk.sk ?_
      refine Stk.sq ?_
      refine Stk.rg ?_
      refine Stk.run 5 (fun t H n => t 1 = .own b1 0 ∧ t 28 = .sc (.bool ((a0.Bytes.length : Int) == 0)) ∧ H b1 = some (.cells (c37 a0) 37) ∧ b1 < n) (fun J hJ => ?_) ?_
      · simp [-splice, f1, f10, b_b1, ld_37_3_35]
        exact hJ _ _ _ ⟨by simp [f1], by simp [-splice, f1, f10, b_b1, ld_37_3_35], b_b1, l_b1⟩
      clear f1 f10 b_b1 l_b1
      rintro t H n ⟨f1, f28, b_b1, l_b1⟩
      refine Stk.jo 8 (fun t H n => t 36 = .sc (.bool (((a0.Bytes.length : Int) == 0) && ((a0.Kids.length : Int) == a0.Head.Count)))) (fun J2 hJ2 => ?_) ?_
      · rcases Bool.eq_false_or_eq_true ((a0.Bytes.length : Int) == 0) with hb2 | hb2
        · rw [hb2] at f28
          refine Stk.run 8 (fun t H n => t 36 = .sc (.bool ((a0.Kids.length : Int) == a0.Head.Count))) (fun J hJ => ?_) ?_
          · simp [-splice, f1, f28, b_b1, ld_37_4_23, ld_37_2_3]
            exact hJ _ _ _ (by simp [-splice, f1, f28, b_b1, ld_37_4_23, ld_37_2_3])
          clear f1 f28 b_b1 l_b1
          rintro t H n f36
          refine Stk.on ?_
          exact Stk.ln 0 (by decide) (hJ2 _ _ _ (f36.trans (congrArg (fun q => AV.sc (.bool q)) (by rw [hb2]; rfl))))
        · rw [hb2] at f28
          refine Stk.run 8 (fun t H n => t 36 = .sc (.bool false)) (fun J hJ => ?_) ?_
          · simp [-splice, f1, f28, b_b1]
            exact hJ _ _ _ (by simp [-splice, f1, f28, b_b1])
          clear f1 f28 b_b1 l_b1
          rintro t H n f36
          refine Stk.on ?_
          exact Stk.ln 0 (by decide) (hJ2 _ _ _ (f36.trans (congrArg (fun q => AV.sc (.bool q)) (by rw [hb2]; rfl))))
      clear f1 f28 b_b1 l_b1
      rintro t H n f36
      refine Stk.run 1 (fun t H n => t 2 = .sc (.bool (((a0.Bytes.length : Int) == 0) && ((a0.Kids.length : Int) == a0.Head.Count)))) (fun J hJ => ?_) ?_
      · simp [-splice, f36]
        exact hJ _ _ _ (by simp [-splice, f36])
      clear f36
      rintro t H n f2
      refine Stk.on ?_
      refine Stk.rt ?_
      have hq := Option.some.inj h; subst hq
      exact (hr _ _ _ (.sc (.bool (((a0.Bytes.length : Int) == 0) && ((a0.Kids.length : Int) == a0.Head.Count)))) ([]) (by simp [f2]) (.inr (.inr (.free (rfl))))).1
theorem ok_R17_edge (F : Nat) (a0 : (List api_Node)) (a1 : api_Edge) (r : Bool) (h : R17_edge F a0 a1 = some r) : RunF Try.prog T.T 139 [.ssl (encs c37 a0) a0.length false, .agg (c31 a1)] (.sc (.bool r)) := by
  rw [R17_edge] at h
  refine RunF.z Try.func139 rfl rfl rfl rfl rfl (fun C hr => ?_)
  refine Stk.gen (fun t H n => t 0 = .ssl (encs c37 a0) a0.length false ∧ t 1 = .agg (c31 a1)) ⟨by simp, by simp⟩ ?_
  rintro t H n ⟨f0, f1⟩
  refine Stk.sq ?_
  refine Stk.rg ?_
  refine Stk.om (mop_box T.t31 (cs := c31 a1) (by show partOk (t 1) = true; rw [f1]; rfl) (by show cellsOf (t 1) = _; rw [f1]; rfl)) (by simp [f0, f1]) rfl (fun t' ht' => ?_)
  refine Stk.gen (fun t H n => ∃ b1, t 0 = .ssl (encs c37 a0) a0.length false ∧ t 3 = .own b1 0 ∧ H b1 = some (.cells (c31 a1) 31) ∧ b1 < n) ⟨n, by simp [ht', f0], by simp [ht'], upd_same _ _ _, Nat.lt_succ_self _⟩ ?_
  clear f0 f1 ht' t'
  rintro t H n ⟨b1, f0, f3, b_b1, l_b1⟩
  refine Stk.run 1 (fun t H n => t 0 = .ssl (encs c37 a0) a0.length false ∧ t 3 = .own b1 0 ∧ H b1 = some (.cells (c31 a1) 31) ∧ b1 < n) (fun J hJ => ?_) ?_
  · simp [-splice, f0, f3, b_b1]
    exact hJ _ _ _ ⟨by simp [f0], by simp [f3], b_b1, l_b1⟩
  clear f0 f3 b_b1 l_b1
  rintro t H n ⟨f0, f3, b_b1, l_b1⟩
  refine Stk.on ?_
  refine Stk.sq ?_
  refine Stk.sq ?_
  refine Stk.rg ?_
  refine Stk.run 2 (fun t H n => t 0 = .ssl (encs c37 a0) a0.length false ∧ t 3 = .own b1 0 ∧ t 6 = .sc (.bool a1.Is) ∧ H b1 = some (.cells (c31 a1) 31) ∧ b1 < n) (fun J hJ => ?_) ?_
  · simp [-splice, f0, f3, b_b1, ld_31_0_4]
    exact hJ _ _ _ ⟨by simp [f0], by simp [f3], by simp [-splice, f0, f3, b_b1, ld_31_0_4], b_b1, l_b1⟩
  clear f0 f3 b_b1 l_b1
  rintro t H n ⟨f0, f3, f6, b_b1, l_b1⟩
  refine Stk.on ?_
  refine Stk.cond a1.Is (by exact f6) (fun hb2 => ?_) (fun hb2 => ?_)
  · have h := cT hb2 h
    refine Stk.sq ?_
    refine Stk.rg ?_
    refine Stk.run 4 (fun t H n => t 0 = .ssl (encs c37 a0) a0.length false ∧ t 3 = .own b1 0 ∧ t 10 = .sc (.bool (a1.Num == 0)) ∧ H b1 = some (.cells (c31 a1) 31) ∧ b1 < n) (fun J hJ => ?_) ?_
    · simp [-splice, f0, f3, f6, b_b1, ld_31_2_2]
      exact hJ _ _ _ ⟨by simp [f0], by simp [f3], by simp [-splice, f0, f3, f6, b_b1, ld_31_2_2], b_b1, l_b1⟩
    clear f0 f3 f6 b_b1 l_b1
    rintro t H n ⟨f0, f3, f10, b_b1, l_b1⟩
    refine Stk.jo 4 (fun t H n => t 0 = .ssl (encs c37 a0) a0.length false ∧ t 3 = .own b1 0 ∧ t 14 = .sc (.bool ((a1.Num == 0) && (decide (0 ≤ a1.Node)))) ∧ H b1 = some (.cells (c31 a1) 31) ∧ b1 < n) (fun J1 hJ1 => ?_) ?_
    · rcases Bool.eq_false_or_eq_true (a1.Num == 0) with hb1 | hb1
      · rw [hb1] at f10
        refine Stk.run 4 (fun t H n => t 0 = .ssl (encs c37 a0) a0.length false ∧ t 3 = .own b1 0 ∧ t 14 = .sc (.bool (decide (0 ≤ a1.Node))) ∧ H b1 = some (.cells (c31 a1) 31) ∧ b1 < n) (fun J hJ => ?_) ?_
        · simp [-splice, f0, f3, f10, b_b1, ld_31_1_3]
          exact hJ _ _ _ ⟨by simp [f0], by simp [f3], by simp [-splice, f0, f3, f10, b_b1, ld_31_1_3], b_b1, l_b1⟩
        clear f0 f3 f10 b_b1 l_b1
        rintro t H n ⟨f0, f3, f14, b_b1, l_b1⟩
        refine Stk.on ?_
        exact Stk.ln 0 (by decide) (hJ1 _ _ _ ⟨f0, f3, f14.trans (congrArg (fun q => AV.sc (.bool q)) (by rw [hb1]; rfl)), b_b1, l_b1⟩)
      · rw [hb1] at f10
        refine Stk.run 4 (fun t H n => t 0 = .ssl (encs c37 a0) a0.length false ∧ t 3 = .own b1 0 ∧ t 14 = .sc (.bool false) ∧ H b1 = some (.cells (c31 a1) 31) ∧ b1 < n) (fun J hJ => ?_) ?_
        · simp [-splice, f0, f3, f10, b_b1]
          exact hJ _ _ _ ⟨by simp [f0], by simp [f3], by simp [-splice, f0, f3, f10, b_b1], b_b1, l_b1⟩
        clear f0 f3 f10 b_b1 l_b1
        rintro t H n ⟨f0, f3, f14, b_b1, l_b1⟩
        refine Stk.on ?_
        exact Stk.ln 0 (by decide) (hJ1 _ _ _ ⟨f0, f3, f14.trans (congrArg (fun q => AV.sc (.bool q)) (by rw [hb1]; rfl)), b_b1, l_b1⟩)
    clear f0 f3 f10 b_b1 l_b1
    rintro t H n ⟨f0, f3, f14, b_b1, l_b1⟩
    refine Stk.run 1 (fun t H n => t 0 = .ssl (encs c37 a0) a0.length false ∧ t 3 = .own b1 0 ∧ t 15 = .sc (.bool ((a1.Num == 0) && (decide (0 ≤ a1.Node)))) ∧ H b1 = some (.cells (c31 a1) 31) ∧ b1 < n) (fun J hJ => ?_) ?_
    · simp [-splice, f0, f3, f14, b_b1]
      exact hJ _ _ _ ⟨by simp [f0], by simp [f3], by simp [-splice, f0, f3, f14, b_b1], b_b1, l_b1⟩
    clear f0 f3 f14 b_b1 l_b1
    rintro t H n ⟨f0, f3, f15, b_b1, l_b1⟩
    refine Stk.jo 6 (fun t H n => t 0 = .ssl (encs c37 a0) a0.length false ∧ t 3 = .own b1 0 ∧ t 21 = .sc (.bool (((a1.Num == 0) && (decide (0 ≤ a1.Node))) && (decide (a1.Node < (a0.length : Int))))) ∧ H b1 = some (.cells (c31 a1) 31) ∧ b1 < n) (fun J2 hJ2 => ?_) ?_
    · rcases Bool.eq_false_or_eq_true ((a1.Num == 0) && (decide (0 ≤ a1.Node))) with hb2 | hb2
      · rw [hb2] at f15
        refine Stk.run 6 (fun t H n => t 0 = .ssl (encs c37 a0) a0.length false ∧ t 3 = .own b1 0 ∧ t 21 = .sc (.bool (decide (a1.Node < (a0.length : Int)))) ∧ H b1 = some (.cells (c31 a1) 31) ∧ b1 < n) (fun J hJ => ?_) ?_
        · simp [-splice, f0, f3, f15, b_b1, ld_31_1_3]
          exact hJ _ _ _ ⟨by simp [f0], by simp [f3], by simp [-splice, f0, f3, f15, b_b1, ld_31_1_3], b_b1, l_b1⟩
        clear f0 f3 f15 b_b1 l_b1
        rintro t H n ⟨f0, f3, f21, b_b1, l_b1⟩
        refine Stk.on ?_
        exact Stk.ln 0 (by decide) (hJ2 _ _ _ ⟨f0, f3, f21.trans (congrArg (fun q => AV.sc (.bool q)) (by rw [hb2]; rfl)), b_b1, l_b1⟩)
      · rw [hb2] at f15
        refine Stk.run 6 (fun t H n => t 0 = .ssl (encs c37 a0) a0.length false ∧ t 3 = .own b1 0 ∧ t 21 = .sc (.bool false) ∧ H b1 = some (.cells (c31 a1) 31) ∧ b1 < n) (fun J hJ => ?_) ?_
        · simp [-splice, f0, f3, f15, b_b1]
          exact hJ _ _ _ ⟨by simp [f0], by simp [f3], by simp [-splice, f0, f3, f15, b_b1], b_b1, l_b1⟩
        clear f0 f3 f15 b_b1 l_b1
        rintro t H n ⟨f0, f3, f21, b_b1, l_b1⟩
        refine Stk.on ?_
        exact Stk.ln 0 (by decide) (hJ2 _ _ _ ⟨f0, f3, f21.trans (congrArg (fun q => AV.sc (.bool q)) (by rw [hb2]; rfl)), b_b1, l_b1⟩)
    clear f0 f3 f15 b_b1 l_b1
    rintro t H n ⟨f0, f3, f21, b_b1, l_b1⟩
    refine Stk.run 1 (fun t H n => t 0 = .ssl (encs c37 a0) a0.length false ∧ t 3 = .own b1 0 ∧ t 22 = .sc (.bool (((a1.Num == 0) && (decide (0 ≤ a1.Node))) && (decide (a1.Node < (a0.length : Int))))) ∧ H b1 = some (.cells (c31 a1) 31) ∧ b1 < n) (fun J hJ => ?_) ?_
    · simp [-splice, f0, f3, f21, b_b1]
      exact hJ _ _ _ ⟨by simp [f0], by simp [f3], by simp [-splice, f0, f3, f21, b_b1], b_b1, l_b1⟩
    clear f0 f3 f21 b_b1 l_b1
    rintro t H n ⟨f0, f3, f22, b_b1, l_b1⟩
    obtain ⟨K3, hK3, h⟩ := jnd h
    refine Stk.jo 7 (fun t H n => ∃ v3 : Bool, K3 v3 = some r ∧ t 29 = .sc (.bool v3)) (fun J3 hJ3 => ?_) ?_
    · rcases Bool.eq_false_or_eq_true (((a1.Num == 0) && (decide (0 ≤ a1.Node))) && (decide (a1.Node < (a0.length : Int)))) with hb3 | hb3
      · rw [hb3] at f22
        replace h := cT hb3 h
        obtain ⟨x4, hx4, h⟩ := bnd h
        obtain ⟨i0x4, i1x4, i2x4, _⟩ := idx_ok hx4
        have ex4_0_37 : partOf T.T 37 (encs c37 a0) (a1.Node.toNat * 5) = some (.agg (c37 x4)) := by
            have e0 := part_elem0 (e := c37) (z := 5) (T := T.T) (ty := 37) T.t37 (by decide) (by decide) hx4 0 (by decide)
            (try simp only [Nat.mul_one, Nat.add_zero] at e0)
            exact e0.trans (ld_37_0_37 _)
        refine Stk.run 5 (fun t H n => t 22 = .sc (.bool true) ∧ t 27 = .agg (c37 x4)) (fun J hJ => ?_) ?_
        · simp [-splice, f0, f3, f22, b_b1, ld_31_1_3, i0x4, i1x4, pd37, ex4_0_37]
          exact hJ _ _ _ ⟨by simp [f22], by simp [-splice, f0, f3, f22, b_b1, ld_31_1_3, i0x4, i1x4, pd37, ex4_0_37]⟩
        clear f0 f3 f22 b_b1 l_b1
        rintro t H n ⟨f22, f27⟩
        obtain ⟨x5, hx5, h⟩ := bnd h
        refine Stk.cv (g := 151) (args := [.agg (c37 x4)]) (args' := [.agg (c37 x4)]) (v := .sc (.bool x5)) [] (ok_R17_node F _ _ hx5) (by simp [f22, f27]) rfl rfl (by simp [f22, f27]) (.cons (.free (fr37 _)) (.nil)) (.inl ⟨rfl, rfl⟩) (fun t' ht' => ?_)
        refine Stk.gen (fun t H n => t 22 = .sc (.bool true) ∧ t 28 = .sc (.bool x5)) ⟨by simp [ht', f22], by simp [ht']⟩ ?_
        clear f22 f27 ht' t'
        rintro t H n ⟨f22, f28⟩
        refine Stk.run 1 (fun t H n => t 29 = .sc (.bool x5)) (fun J hJ => ?_) ?_
        · simp [-splice, f22, f28]
          exact hJ _ _ _ (by simp [-splice, f22, f28])
        clear f22 f28
        rintro t H n f29
        refine Stk.on ?_
        exact Stk.ln 0 (by decide) (hJ3 _ _ _ ⟨x5, h, f29⟩)
      · rw [hb3] at f22
        replace h := cF hb3 h
        refine Stk.run 7 (fun t H n => t 29 = .sc (.bool false)) (fun J hJ => ?_) ?_
        · simp [-splice, f0, f3, f22, b_b1]
          exact hJ _ _ _ (by simp [-splice, f0, f3, f22, b_b1])
        clear f0 f3 f22 b_b1 l_b1
        rintro t H n f29
        refine Stk.on ?_
        exact Stk.ln 0 (by decide) (hJ3 _ _ _ ⟨false, h, f29⟩)
    clear h f0 f3 f22 b_b1 l_b1
    rintro t H n ⟨v3, h, f29⟩
    subst hK3
    refine Stk.run 1 (fun t H n => t 4 = .sc (.bool v3)) (fun J hJ => ?_) ?_
    · simp [-splice, f29]
      exact hJ _ _ _ (by simp [-splice, f29])
    clear f29
    rintro t H n f4
    refine Stk.on ?_
    refine Stk.rt ?_
    have hq := Option.some.inj h; subst hq
    exact (hr _ _ _ (.sc (.bool v3)) ([]) (by simp [f4]) (.inr (.inr (.free (rfl))))).1
  · have h := cF hb2 h
    refine Stk.sk ?_
    refine Stk.sq ?_
    refine Stk.rg ?_
    refine Stk.run 4 (fun t H n => t 3 = .own b1 0 ∧ t 33 = .sc (.bool (a1.Node == 0)) ∧ H b1 = some (.cells (c31 a1) 31) ∧ b1 < n) (fun J hJ => ?_) ?_
    · simp [-splice, f0, f3, f6, b_b1, ld_31_1_3]
      exact hJ _ _ _ ⟨by simp [f3], by simp [-splice, f0, f3, f6, b_b1, ld_31_1_3], b_b1, l_b1⟩
    clear f0 f3 f6 b_b1 l_b1
    rintro t H n ⟨f3, f33, b_b1, l_b1⟩
    refine Stk.jo 4 (fun t H n => t 3 = .own b1 0 ∧ t 37 = .sc (.bool ((a1.Node == 0) && (decide ((-4611686018427387904) ≤ a1.Num)))) ∧ H b1 = some (.cells (c31 a1) 31) ∧ b1 < n) (fun J4 hJ4 => ?_) ?_
    · rcases Bool.eq_false_or_eq_true (a1.Node == 0) with hb4 | hb4
      · rw [hb4] at f33
        refine Stk.run 4 (fun t H n => t 3 = .own b1 0 ∧ t 37 = .sc (.bool (decide ((-4611686018427387904) ≤ a1.Num))) ∧ H b1 = some (.cells (c31 a1) 31) ∧ b1 < n) (fun J hJ => ?_) ?_
        · simp [-splice, f3, f33, b_b1, ld_31_2_2]
          exact hJ _ _ _ ⟨by simp [f3], by simp [-splice, f3, f33, b_b1, ld_31_2_2], b_b1, l_b1⟩
        clear f3 f33 b_b1 l_b1
        rintro t H n ⟨f3, f37, b_b1, l_b1⟩
        refine Stk.on ?_
        exact Stk.ln 0 (by decide) (hJ4 _ _ _ ⟨f3, f37.trans (congrArg (fun q => AV.sc (.bool q)) (by rw [hb4]; rfl)), b_b1, l_b1⟩)
      · rw [hb4] at f33
        refine Stk.run 4 (fun t H n => t 3 = .own b1 0 ∧ t 37 = .sc (.bool false) ∧ H b1 = some (.cells (c31 a1) 31) ∧ b1 < n) (fun J hJ => ?_) ?_
        · simp [-splice, f3, f33, b_b1]
          exact hJ _ _ _ ⟨by simp [f3], by simp [-splice, f3, f33, b_b1], b_b1, l_b1⟩
        clear f3 f33 b_b1 l_b1
        rintro t H n ⟨f3, f37, b_b1, l_b1⟩
        refine Stk.on ?_
        exact Stk.ln 0 (by decide) (hJ4 _ _ _ ⟨f3, f37.trans (congrArg (fun q => AV.sc (.bool q)) (by rw [hb4]; rfl)), b_b1, l_b1⟩)
    clear f3 f33 b_b1 l_b1
    rintro t H n ⟨f3, f37, b_b1, l_b1⟩
    refine Stk.run 1 (fun t H n => t 3 = .own b1 0 ∧ t 38 = .sc (.bool ((a1.Node == 0) && (decide ((-4611686018427387904) ≤ a1.Num)))) ∧ H b1 = some (.cells (c31 a1) 31) ∧ b1 < n) (fun J hJ => ?_) ?_
    · simp [-splice, f3, f37, b_b1]
      exact hJ _ _ _ ⟨by simp [f3], by simp [-splice, f3, f37, b_b1], b_b1, l_b1⟩
    clear f3 f37 b_b1 l_b1
    rintro t H n ⟨f3, f38, b_b1, l_b1⟩
    refine Stk.jo 4 (fun t H n => t 42 = .sc (.bool (((a1.Node == 0) && (decide ((-4611686018427387904) ≤ a1.Num))) && (decide (a1.Num < 4611686018427387904))))) (fun J5 hJ5 => ?_) ?_
    · rcases Bool.eq_false_or_eq_true ((a1.Node == 0) && (decide ((-4611686018427387904) ≤ a1.Num))) with hb5 | hb5
      · rw [hb5] at f38
        refine Stk.run 4 (fun t H n => t 42 = .sc (.bool (decide (a1.Num < 4611686018427387904)))) (fun J hJ => ?_) ?_
        · simp [-splice, f3, f38, b_b1, ld_31_2_2]
          exact hJ _ _ _ (by simp [-splice, f3, f38, b_b1, ld_31_2_2])
        clear f3 f38 b_b1 l_b1
        rintro t H n f42
        refine Stk.on ?_
        exact Stk.ln 0 (by decide) (hJ5 _ _ _ (f42.trans (congrArg (fun q => AV.sc (.bool q)) (by rw [hb5]; rfl))))
      · rw [hb5] at f38
        refine Stk.run 4 (fun t H n => t 42 = .sc (.bool false)) (fun J hJ => ?_) ?_
        · simp [-splice, f3, f38, b_b1]
          exact hJ _ _ _ (by simp [-splice, f3, f38, b_b1])
        clear f3 f38 b_b1 l_b1
        rintro t H n f42
        refine Stk.on ?_
        exact Stk.ln 0 (by decide) (hJ5 _ _ _ (f42.trans (congrArg (fun q => AV.sc (.bool q)) (by rw [hb5]; rfl))))
    clear f3 f38 b_b1 l_b1
    rintro t H n f42
    refine Stk.run 1 (fun t H n => t 4 = .sc (.bool (((a1.Node == 0) && (decide ((-4611686018427387904) ≤ a1.Num))) && (decide (a1.Num < 4611686018427387904))))) (fun J hJ => ?_) ?_
    · simp [-splice, f42]
      exact hJ _ _ _ (by simp [-splice, f42])
    clear f42
    rintro t H n f4
    refine Stk.on ?_
    refine Stk.rt ?_
    have hq := Option.some.inj h; subst hq
    exact (hr _ _ _ (.sc (.bool (((a1.Node == 0) && (decide ((-4611686018427387904) ≤ a1.Num))) && (decide (a1.Num < 4611686018427387904))))) ([]) (by simp [f4]) (.inr (.inr (.free (rfl))))).1
theorem ok_R17_place (F : Nat) (a0 : (List Int)) (a1 : Int) (r : Int) (h : R17_place F a0 a1 = some r) : RunF Try.prog T.T 140 [.ssl (encs c3 a0) a0.length false, .sc (.int .i64 a1)] (.sc (.int .i64 r)) := by
  rw [R17_place] at h
  refine RunF.z Try.func140 rfl rfl rfl rfl rfl (fun C hr => ?_)
  refine Stk.gen (fun t H n => t 0 = .ssl (encs c3 a0) a0.length false ∧ t 1 = .sc (.int .i64 a1)) ⟨by simp, by simp⟩ ?_
  rintro t H n ⟨f0, f1⟩
  refine Stk.sq ?_
  refine Stk.rg ?_
  refine Stk.run 1 (fun t H n => t 0 = .ssl (encs c3 a0) a0.length false ∧ t 1 = .sc (.int .i64 a1)) (fun J hJ => ?_) ?_
  · simp [-splice, f0, f1]
    exact hJ _ _ _ ⟨by simp [f0], by simp [f1]⟩
  clear f0 f1
  rintro t H n ⟨f0, f1⟩
  refine Stk.on ?_
  refine Stk.sq ?_
  refine Stk.sq ?_
  refine Stk.rg ?_
  refine Stk.run 1 (fun t H n => t 0 = .ssl (encs c3 a0) a0.length false ∧ t 1 = .sc (.int .i64 a1) ∧ t 5 = .sc (.int .i64 0)) (fun J hJ => ?_) ?_
  · simp [-splice, f0, f1]
    exact hJ _ _ _ ⟨by simp [f0], by simp [f1], by simp [-splice, f0, f1]⟩
  clear f0 f1
  rintro t H n ⟨f0, f1, f5⟩
  refine Stk.on ?_
  refine Stk.bk ?_
  refine Stk.lo (fun μ t H n => ∃ v1 : Int, R17_place_L0 F a0 a1 μ v1 = some r ∧ t 0 = .ssl (encs c3 a0) a0.length false ∧ t 1 = .sc (.int .i64 a1) ∧ t 5 = .sc (.int .i64 v1)) F ⟨0, h, f0, f1, f5⟩ ?_
  clear h f0 f1 f5
  rintro J1 hJ1 μ t H n ⟨v1, h, f0, f1, f5⟩
  cases μ with
  | zero => exact absurd h (by simp [R17_place_L0])
  | succ μ =>
  rw [R17_place_L0] at h
  refine Stk.sq ?_
  refine Stk.sq ?_
  refine Stk.rg ?_
  refine Stk.run 4 (fun t H n => t 0 = .ssl (encs c3 a0) a0.length false ∧ t 1 = .sc (.int .i64 a1) ∧ t 5 = .sc (.int .i64 v1) ∧ t 9 = .sc (.bool (decide (v1 < (a0.length : Int))))) (fun J hJ => ?_) ?_
  · simp [-splice, f0, f1, f5]
    exact hJ _ _ _ ⟨by simp [f0], by simp [f1], by simp [f5], by simp [-splice, f0, f1, f5]⟩
  clear f0 f1 f5
  rintro t H n ⟨f0, f1, f5, f9⟩
  refine Stk.on ?_
  refine Stk.cond (decide (v1 < (a0.length : Int))) (by exact f9) (fun hb3 => ?_) (fun hb3 => ?_)
  · have h := cT hb3 h
    refine Stk.sk ?_
    refine Stk.sq ?_
    refine Stk.bk ?_
    refine Stk.sq ?_
    refine Stk.rg ?_
    obtain ⟨x4, hx4, h⟩ := bnd h
    obtain ⟨i0x4, i1x4, i2x4, _⟩ := idx_ok hx4
    have ex4_0_3 : partOf T.T 3 (encs c3 a0) (v1.toNat) = some (.sc (.int .i64 x4)) := by
        have e0 := part_elem0 (e := c3) (z := 1) (T := T.T) (ty := 3) T.t3 (by decide) (by decide) hx4 0 (by decide)
        (try simp only [Nat.mul_one, Nat.add_zero] at e0)
        exact e0.trans rfl
    refine Stk.run 6 (fun t H n => t 0 = .ssl (encs c3 a0) a0.length false ∧ t 1 = .sc (.int .i64 a1) ∧ t 5 = .sc (.int .i64 v1) ∧ t 17 = .sc (.bool (x4 == a1))) (fun J hJ => ?_) ?_
    · simp [-splice, f0, f1, f5, f9, i0x4, i1x4, pd3, ex4_0_3]
      exact hJ _ _ _ ⟨by simp [f0], by simp [f1], by simp [f5], by simp [-splice, f0, f1, f5, f9, i0x4, i1x4, pd3, ex4_0_3]⟩
    clear f0 f1 f5 f9
    rintro t H n ⟨f0, f1, f5, f17⟩
    refine Stk.on ?_
    refine Stk.cond (x4 == a1) (by exact f17) (fun hb5 => ?_) (fun hb5 => ?_)
    · have h := cT hb5 h
      refine Stk.sq ?_
      refine Stk.rg ?_
      refine Stk.run 2 (fun t H n => t 4 = .sc (.int .i64 v1)) (fun J hJ => ?_) ?_
      · simp [-splice, f0, f1, f5, f17]
        exact hJ _ _ _ (by simp [-splice, f0, f1, f5, f17])
      clear f0 f1 f5 f17
      rintro t H n f4
      refine Stk.on ?_
      refine Stk.rt ?_
      have hq := Option.some.inj h; subst hq
      exact (hr _ _ _ (.sc (.int .i64 v1)) ([]) (by simp [f4]) (.inr (.inr (.free (rfl))))).1
    · have h := cF hb5 h
      refine Stk.sk ?_
      refine Stk.bn ?_
      refine Stk.rg ?_
      refine Stk.run 3 (fun t H n => t 0 = .ssl (encs c3 a0) a0.length false ∧ t 1 = .sc (.int .i64 a1) ∧ t 5 = .sc (.int .i64 (IntKind.i64.wrap (v1 + 1)))) (fun J hJ => ?_) ?_
      · simp [-splice, f0, f1, f5, f17]
        exact hJ _ _ _ ⟨by simp [f0], by simp [f1], by simp [-splice, f0, f1, f5, f17]⟩
      clear f0 f1 f5 f17
      rintro t H n ⟨f0, f1, f5⟩
      refine Stk.on ?_
      exact Stk.ln μ (Nat.lt_succ_self _) (hJ1 _ _ _ _ ⟨(IntKind.i64.wrap (v1 + 1)), h, f0, f1, f5⟩)
  · have h := cF hb3 h
    refine Stk.ex rfl ?_
    refine Stk.sq ?_
    refine Stk.rg ?_
    refine Stk.run 1 (fun t H n => t 4 = .sc (.int .i64 (-1))) (fun J hJ => ?_) ?_
    · simp [-splice, f0, f1, f5, f9]
      exact hJ _ _ _ (by simp [-splice, f0, f1, f5, f9])
    clear f0 f1 f5 f9
    rintro t H n f4
    refine Stk.on ?_
    refine Stk.rt ?_
    have hq := Option.some.inj h; subst hq
    exact (hr _ _ _ (.sc (.int .i64 (-1))) ([]) (by simp [f4]) (.inr (.inr (.free (rfl))))).1
theorem ok_word_wrapped (F : Nat) (a0 : Int) (r : Int) (h : word_wrapped F a0 = some r) : RunF Try.prog T.T 150 [.sc (.int .i64 a0)] (.sc (.int .i64 r)) := by
  rw [word_wrapped] at h
  refine RunF.z Try.func150 rfl rfl rfl rfl rfl (fun C hr => ?_)
  refine Stk.gen (fun t H n => t 0 = .sc (.int .i64 a0)) (by simp) ?_
  rintro t H n f0
  refine Stk.sq ?_
  refine Stk.rg ?_
  refine Stk.run 1 (fun t H n => t 0 = .sc (.int .i64 a0)) (fun J hJ => ?_) ?_
  · simp [-splice, f0]
    exact hJ _ _ _ (by simp [f0])
  clear f0
  rintro t H n f0
  refine Stk.on ?_
  refine Stk.sq ?_
  refine Stk.rg ?_
  refine Stk.run 4 (fun t H n => t 2 = .sc (.int .i64 (shrI .i64 (shlI .i64 a0 1) 1))) (fun J hJ => ?_) ?_
  · simp [-splice, f0]
    exact hJ _ _ _ (by simp [-splice, f0])
  clear f0
  rintro t H n f2
  refine Stk.on ?_
  refine Stk.rt ?_
  have hq := Option.some.inj h; subst hq
  exact (hr _ _ _ (.sc (.int .i64 (shrI .i64 (shlI .i64 a0 1) 1))) ([]) (by simp [f2]) (.inr (.inr (.free (rfl))))).1
end Go.Proofs.Ytfflojbgikfbmaa.M
