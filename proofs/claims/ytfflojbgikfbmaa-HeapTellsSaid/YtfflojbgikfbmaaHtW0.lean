/-
  The functions come to them.
-/
import Derived.Test.YtfflojbgikfbmaaHtM
namespace Go.Proofs.Ytfflojbgikfbmaa.M
open Go.Proofs.YtfflojbgikfbmaaW.Ah Go.Proofs.Ytfflojbgikfbmaa
set_option linter.unusedVariables false
set_option linter.unusedSimpArgs false
set_option maxRecDepth 8000
attribute [local simp] T.t3 T.t4 T.t5 T.t34 T.t35 T.t39 T.t40 T.t93 T.t148 List.range List.range.loop
attribute [-simp] appendAV fillAV
theorem ok_L16_tiny (F : Nat) (a0 : api_Heap) (r : Bool) (h : L16_tiny F a0 = some r) : RunF Try.prog T.T 54 [.agg (c93 a0)] (.sc (.bool r)) := by
  rw [L16_tiny] at h
  refine RunF.z Try.func54 rfl rfl rfl rfl rfl (fun C hr => ?_)
  refine Stk.gen (fun t H n => t 0 = .agg (c93 a0)) (by simp) ?_
  rintro t H n f0
  refine Stk.sq ?_
  refine Stk.rg ?_
  refine Stk.om (mop_box T.t93 (cs := c93 a0) (by show partOk (t 0) = true; rw [f0]; rfl) (by show cellsOf (t 0) = _; rw [f0]; rfl)) (by simp [f0]) rfl (fun t' ht' => ?_)
  refine Stk.gen (fun t H n => ∃ b1, t 1 = .own b1 0 ∧ H b1 = some (.cells (c93 a0) 93) ∧ b1 < n) ⟨n, by simp [ht'], upd_same _ _ _, Nat.lt_succ_self _⟩ ?_
  clear f0 ht' t'
  rintro t H n ⟨b1, f1, b_b1, l_b1⟩
  refine Stk.run 1 (fun t H n => t 1 = .own b1 0 ∧ H b1 = some (.cells (c93 a0) 93) ∧ b1 < n) (fun J hJ => ?_) ?_
  · simp [-splice, f1, b_b1]
    exact hJ _ _ _ ⟨by simp [f1], b_b1, l_b1⟩
  clear f1 b_b1 l_b1
  rintro t H n ⟨f1, b_b1, l_b1⟩
  refine Stk.on ?_
  refine Stk.sq ?_
  refine Stk.rg ?_
  refine Stk.run 5 (fun t H n => t 2 = .sc (.bool (decide ((a0.Words.length : Int) ≤ 500)))) (fun J hJ => ?_) ?_
  · simp [-splice, f1, b_b1, ld_93_0_39]
    exact hJ _ _ _ (by simp [-splice, f1, b_b1, ld_93_0_39])
  clear f1 b_b1 l_b1
  rintro t H n f2
  refine Stk.on ?_
  refine Stk.rt ?_
  have hq := Option.some.inj h; subst hq
  exact (hr _ _ _ (.sc (.bool (decide ((a0.Words.length : Int) ≤ 500)))) ([]) (by simp [f2]) (.inr (.inr (.free (rfl))))).1
theorem ok_L16_awake (F : Nat) (r : Bool) (h : L16_awake F = some r) : RunF Try.prog T.T 34 [] (.sc (.bool r)) := by
  cases h
  exact RunF.x 4000 (by decide +kernel)
theorem ok_heap_can (F : Nat) (a0 : api_Head) (r : Bool) (h : heap_can F a0 = some r) : RunF Try.prog T.T 112 [.agg (c34 a0)] (.sc (.bool r)) := by
  rw [heap_can] at h
  refine RunF.z Try.func112 rfl rfl rfl rfl rfl (fun C hr => ?_)
  refine Stk.gen (fun t H n => t 0 = .agg (c34 a0)) (by simp) ?_
  rintro t H n f0
  refine Stk.sq ?_
  refine Stk.rg ?_
  refine Stk.om (mop_box T.t34 (cs := c34 a0) (by show partOk (t 0) = true; rw [f0]; rfl) (by show cellsOf (t 0) = _; rw [f0]; rfl)) (by simp [f0]) rfl (fun t' ht' => ?_)
  refine Stk.gen (fun t H n => ∃ b1, t 1 = .own b1 0 ∧ H b1 = some (.cells (c34 a0) 34) ∧ b1 < n) ⟨n, by simp [ht'], upd_same _ _ _, Nat.lt_succ_self _⟩ ?_
  clear f0 ht' t'
  rintro t H n ⟨b1, f1, b_b1, l_b1⟩
  refine Stk.run 1 (fun t H n => t 1 = .own b1 0 ∧ H b1 = some (.cells (c34 a0) 34) ∧ b1 < n) (fun J hJ => ?_) ?_
  · simp [-splice, f1, b_b1]
    exact hJ _ _ _ ⟨by simp [f1], b_b1, l_b1⟩
  clear f1 b_b1 l_b1
  rintro t H n ⟨f1, b_b1, l_b1⟩
  refine Stk.on ?_
  refine Stk.sq ?_
  refine Stk.sq ?_
  refine Stk.rg ?_
  refine Stk.run 2 (fun t H n => t 1 = .own b1 0 ∧ t 4 = .sc (.int .i64 a0.Kind) ∧ H b1 = some (.cells (c34 a0) 34) ∧ b1 < n) (fun J hJ => ?_) ?_
  · simp [-splice, f1, b_b1, ld_34_0_3]
    exact hJ _ _ _ ⟨by simp [f1], by simp [-splice, f1, b_b1, ld_34_0_3], b_b1, l_b1⟩
  clear f1 b_b1 l_b1
  rintro t H n ⟨f1, f4, b_b1, l_b1⟩
  refine Stk.on ?_
  refine Stk.bk ?_
  refine Stk.sq ?_
  refine Stk.rg ?_
  refine Stk.run 2 (fun t H n => t 1 = .own b1 0 ∧ t 4 = .sc (.int .i64 a0.Kind) ∧ t 5 = .sc (.bool (a0.Kind == 0)) ∧ H b1 = some (.cells (c34 a0) 34) ∧ b1 < n) (fun J hJ => ?_) ?_
  · simp [-splice, f1, f4, b_b1]
    exact hJ _ _ _ ⟨by simp [f1], by simp [f4], by simp [-splice, f1, f4, b_b1], b_b1, l_b1⟩
  clear f1 f4 b_b1 l_b1
  rintro t H n ⟨f1, f4, f5, b_b1, l_b1⟩
  refine Stk.on ?_
  refine Stk.cond (a0.Kind == 0) (by exact f5) (fun hb2 => ?_) (fun hb2 => ?_)
  · have h := cT hb2 h
    refine Stk.sq ?_
    refine Stk.rg ?_
    refine Stk.run 4 (fun t H n => t 1 = .own b1 0 ∧ t 10 = .sc (.bool (decide (0 ≤ a0.Tag))) ∧ H b1 = some (.cells (c34 a0) 34) ∧ b1 < n) (fun J hJ => ?_) ?_
    · simp [-splice, f1, f4, f5, b_b1, ld_34_1_3]
      exact hJ _ _ _ ⟨by simp [f1], by simp [-splice, f1, f4, f5, b_b1, ld_34_1_3], b_b1, l_b1⟩
    clear f1 f4 f5 b_b1 l_b1
    rintro t H n ⟨f1, f10, b_b1, l_b1⟩
    refine Stk.jo 4 (fun t H n => t 1 = .own b1 0 ∧ t 14 = .sc (.bool ((decide (0 ≤ a0.Tag)) && (decide (a0.Tag ≤ 15)))) ∧ H b1 = some (.cells (c34 a0) 34) ∧ b1 < n) (fun J1 hJ1 => ?_) ?_
    · rcases Bool.eq_false_or_eq_true (decide (0 ≤ a0.Tag)) with hb1 | hb1
      · rw [hb1] at f10
        refine Stk.run 4 (fun t H n => t 1 = .own b1 0 ∧ t 14 = .sc (.bool (decide (a0.Tag ≤ 15))) ∧ H b1 = some (.cells (c34 a0) 34) ∧ b1 < n) (fun J hJ => ?_) ?_
        · simp [-splice, f1, f10, b_b1, ld_34_1_3]
          exact hJ _ _ _ ⟨by simp [f1], by simp [-splice, f1, f10, b_b1, ld_34_1_3], b_b1, l_b1⟩
        clear f1 f10 b_b1 l_b1
        rintro t H n ⟨f1, f14, b_b1, l_b1⟩
        refine Stk.on ?_
        exact Stk.ln 0 (by decide) (hJ1 _ _ _ ⟨f1, f14.trans (congrArg (fun q => AV.sc (.bool q)) (by rw [hb1]; rfl)), b_b1, l_b1⟩)
      · rw [hb1] at f10
        refine Stk.run 4 (fun t H n => t 1 = .own b1 0 ∧ t 14 = .sc (.bool false) ∧ H b1 = some (.cells (c34 a0) 34) ∧ b1 < n) (fun J hJ => ?_) ?_
        · simp [-splice, f1, f10, b_b1]
          exact hJ _ _ _ ⟨by simp [f1], by simp [-splice, f1, f10, b_b1], b_b1, l_b1⟩
        clear f1 f10 b_b1 l_b1
        rintro t H n ⟨f1, f14, b_b1, l_b1⟩
        refine Stk.on ?_
        exact Stk.ln 0 (by decide) (hJ1 _ _ _ ⟨f1, f14.trans (congrArg (fun q => AV.sc (.bool q)) (by rw [hb1]; rfl)), b_b1, l_b1⟩)
    clear f1 f10 b_b1 l_b1
    rintro t H n ⟨f1, f14, b_b1, l_b1⟩
    refine Stk.run 1 (fun t H n => t 1 = .own b1 0 ∧ t 15 = .sc (.bool ((decide (0 ≤ a0.Tag)) && (decide (a0.Tag ≤ 15)))) ∧ H b1 = some (.cells (c34 a0) 34) ∧ b1 < n) (fun J hJ => ?_) ?_
    · simp [-splice, f1, f14, b_b1]
      exact hJ _ _ _ ⟨by simp [f1], by simp [-splice, f1, f14, b_b1], b_b1, l_b1⟩
    clear f1 f14 b_b1 l_b1
    rintro t H n ⟨f1, f15, b_b1, l_b1⟩
    refine Stk.jo 4 (fun t H n => t 1 = .own b1 0 ∧ t 19 = .sc (.bool (((decide (0 ≤ a0.Tag)) && (decide (a0.Tag ≤ 15))) && (decide (0 < a0.Count)))) ∧ H b1 = some (.cells (c34 a0) 34) ∧ b1 < n) (fun J2 hJ2 => ?_) ?_
    · rcases Bool.eq_false_or_eq_true ((decide (0 ≤ a0.Tag)) && (decide (a0.Tag ≤ 15))) with hb2 | hb2
      · rw [hb2] at f15
        refine Stk.run 4 (fun t H n => t 1 = .own b1 0 ∧ t 19 = .sc (.bool (decide (0 < a0.Count))) ∧ H b1 = some (.cells (c34 a0) 34) ∧ b1 < n) (fun J hJ => ?_) ?_
        · simp [-splice, f1, f15, b_b1, ld_34_2_3]
          exact hJ _ _ _ ⟨by simp [f1], by simp [-splice, f1, f15, b_b1, ld_34_2_3], b_b1, l_b1⟩
        clear f1 f15 b_b1 l_b1
        rintro t H n ⟨f1, f19, b_b1, l_b1⟩
        refine Stk.on ?_
        exact Stk.ln 0 (by decide) (hJ2 _ _ _ ⟨f1, f19.trans (congrArg (fun q => AV.sc (.bool q)) (by rw [hb2]; rfl)), b_b1, l_b1⟩)
      · rw [hb2] at f15
        refine Stk.run 4 (fun t H n => t 1 = .own b1 0 ∧ t 19 = .sc (.bool false) ∧ H b1 = some (.cells (c34 a0) 34) ∧ b1 < n) (fun J hJ => ?_) ?_
        · simp [-splice, f1, f15, b_b1]
          exact hJ _ _ _ ⟨by simp [f1], by simp [-splice, f1, f15, b_b1], b_b1, l_b1⟩
        clear f1 f15 b_b1 l_b1
        rintro t H n ⟨f1, f19, b_b1, l_b1⟩
        refine Stk.on ?_
        exact Stk.ln 0 (by decide) (hJ2 _ _ _ ⟨f1, f19.trans (congrArg (fun q => AV.sc (.bool q)) (by rw [hb2]; rfl)), b_b1, l_b1⟩)
    clear f1 f15 b_b1 l_b1
    rintro t H n ⟨f1, f19, b_b1, l_b1⟩
    refine Stk.run 1 (fun t H n => t 1 = .own b1 0 ∧ t 20 = .sc (.bool (((decide (0 ≤ a0.Tag)) && (decide (a0.Tag ≤ 15))) && (decide (0 < a0.Count)))) ∧ H b1 = some (.cells (c34 a0) 34) ∧ b1 < n) (fun J hJ => ?_) ?_
    · simp [-splice, f1, f19, b_b1]
      exact hJ _ _ _ ⟨by simp [f1], by simp [-splice, f1, f19, b_b1], b_b1, l_b1⟩
    clear f1 f19 b_b1 l_b1
    rintro t H n ⟨f1, f20, b_b1, l_b1⟩
    refine Stk.jo 4 (fun t H n => t 24 = .sc (.bool ((((decide (0 ≤ a0.Tag)) && (decide (a0.Tag ≤ 15))) && (decide (0 < a0.Count))) && (decide (a0.Count ≤ 6))))) (fun J3 hJ3 => ?_) ?_
    · rcases Bool.eq_false_or_eq_true (((decide (0 ≤ a0.Tag)) && (decide (a0.Tag ≤ 15))) && (decide (0 < a0.Count))) with hb3 | hb3
      · rw [hb3] at f20
        refine Stk.run 4 (fun t H n => t 24 = .sc (.bool (decide (a0.Count ≤ 6)))) (fun J hJ => ?_) ?_
        · simp [-splice, f1, f20, b_b1, ld_34_2_3]
          exact hJ _ _ _ (by simp [-splice, f1, f20, b_b1, ld_34_2_3])
        clear f1 f20 b_b1 l_b1
        rintro t H n f24
        refine Stk.on ?_
        exact Stk.ln 0 (by decide) (hJ3 _ _ _ (f24.trans (congrArg (fun q => AV.sc (.bool q)) (by rw [hb3]; rfl))))
      · rw [hb3] at f20
        refine Stk.run 4 (fun t H n => t 24 = .sc (.bool false)) (fun J hJ => ?_) ?_
        · simp [-splice, f1, f20, b_b1]
          exact hJ _ _ _ (by simp [-splice, f1, f20, b_b1])
        clear f1 f20 b_b1 l_b1
        rintro t H n f24
        refine Stk.on ?_
        exact Stk.ln 0 (by decide) (hJ3 _ _ _ (f24.trans (congrArg (fun q => AV.sc (.bool q)) (by rw [hb3]; rfl))))
    clear f1 f20 b_b1 l_b1
    rintro t H n f24
    refine Stk.run 1 (fun t H n => t 2 = .sc (.bool ((((decide (0 ≤ a0.Tag)) && (decide (a0.Tag ≤ 15))) && (decide (0 < a0.Count))) && (decide (a0.Count ≤ 6))))) (fun J hJ => ?_) ?_
    · simp [-splice, f24]
      exact hJ _ _ _ (by simp [-splice, f24])
    clear f24
    rintro t H n f2
    refine Stk.on ?_
    refine Stk.rt ?_
    have hq := Option.some.inj h; subst hq
    exact (hr _ _ _ (.sc (.bool ((((decide (0 ≤ a0.Tag)) && (decide (a0.Tag ≤ 15))) && (decide (0 < a0.Count))) && (decide (a0.Count ≤ 6))))) ([]) (by simp [f2]) (.inr (.inr (.free (rfl))))).1
  · have h := cF hb2 h
    refine Stk.sq ?_
    refine Stk.rg ?_
    refine Stk.run 2 (fun t H n => t 1 = .own b1 0 ∧ t 25 = .sc (.bool (a0.Kind == 1)) ∧ H b1 = some (.cells (c34 a0) 34) ∧ b1 < n) (fun J hJ => ?_) ?_
    · simp [-splice, f1, f4, f5, b_b1]
      exact hJ _ _ _ ⟨by simp [f1], by simp [-splice, f1, f4, f5, b_b1], b_b1, l_b1⟩
    clear f1 f4 f5 b_b1 l_b1
    rintro t H n ⟨f1, f25, b_b1, l_b1⟩
    refine Stk.on ?_
    refine Stk.cond (a0.Kind == 1) (by exact f25) (fun hb3 => ?_) (fun hb3 => ?_)
    · have h := cT hb3 h
      refine Stk.sq ?_
      refine Stk.rg ?_
      refine Stk.run 4 (fun t H n => t 1 = .own b1 0 ∧ t 30 = .sc (.bool (a0.Tag == 0)) ∧ H b1 = some (.cells (c34 a0) 34) ∧ b1 < n) (fun J hJ => ?_) ?_
      · simp [-splice, f1, f25, b_b1, ld_34_1_3]
        exact hJ _ _ _ ⟨by simp [f1], by simp [-splice, f1, f25, b_b1, ld_34_1_3], b_b1, l_b1⟩
      clear f1 f25 b_b1 l_b1
      rintro t H n ⟨f1, f30, b_b1, l_b1⟩
      refine Stk.jo 4 (fun t H n => t 1 = .own b1 0 ∧ t 34 = .sc (.bool ((a0.Tag == 0) && (decide (0 ≤ a0.Count)))) ∧ H b1 = some (.cells (c34 a0) 34) ∧ b1 < n) (fun J4 hJ4 => ?_) ?_
      · rcases Bool.eq_false_or_eq_true (a0.Tag == 0) with hb4 | hb4
        · rw [hb4] at f30
          refine Stk.run 4 (fun t H n => t 1 = .own b1 0 ∧ t 34 = .sc (.bool (decide (0 ≤ a0.Count))) ∧ H b1 = some (.cells (c34 a0) 34) ∧ b1 < n) (fun J hJ => ?_) ?_
          · simp [-splice, f1, f30, b_b1, ld_34_2_3]
            exact hJ _ _ _ ⟨by simp [f1], by simp [-splice, f1, f30, b_b1, ld_34_2_3], b_b1, l_b1⟩
          clear f1 f30 b_b1 l_b1
          rintro t H n ⟨f1, f34, b_b1, l_b1⟩
          refine Stk.on ?_
          exact Stk.ln 0 (by decide) (hJ4 _ _ _ ⟨f1, f34.trans (congrArg (fun q => AV.sc (.bool q)) (by rw [hb4]; rfl)), b_b1, l_b1⟩)
        · rw [hb4] at f30
          refine Stk.run 4 (fun t H n => t 1 = .own b1 0 ∧ t 34 = .sc (.bool false) ∧ H b1 = some (.cells (c34 a0) 34) ∧ b1 < n) (fun J hJ => ?_) ?_
          · simp [-splice, f1, f30, b_b1]
            exact hJ _ _ _ ⟨by simp [f1], by simp [-splice, f1, f30, b_b1], b_b1, l_b1⟩
          clear f1 f30 b_b1 l_b1
          rintro t H n ⟨f1, f34, b_b1, l_b1⟩
          refine Stk.on ?_
          exact Stk.ln 0 (by decide) (hJ4 _ _ _ ⟨f1, f34.trans (congrArg (fun q => AV.sc (.bool q)) (by rw [hb4]; rfl)), b_b1, l_b1⟩)
      clear f1 f30 b_b1 l_b1
      rintro t H n ⟨f1, f34, b_b1, l_b1⟩
      refine Stk.run 1 (fun t H n => t 1 = .own b1 0 ∧ t 35 = .sc (.bool ((a0.Tag == 0) && (decide (0 ≤ a0.Count)))) ∧ H b1 = some (.cells (c34 a0) 34) ∧ b1 < n) (fun J hJ => ?_) ?_
      · simp [-splice, f1, f34, b_b1]
        exact hJ _ _ _ ⟨by simp [f1], by simp [-splice, f1, f34, b_b1], b_b1, l_b1⟩
      clear f1 f34 b_b1 l_b1
      rintro t H n ⟨f1, f35, b_b1, l_b1⟩
      refine Stk.jo 4 (fun t H n => t 39 = .sc (.bool (((a0.Tag == 0) && (decide (0 ≤ a0.Count))) && (decide (a0.Count ≤ 64))))) (fun J5 hJ5 => ?_) ?_
      · rcases Bool.eq_false_or_eq_true ((a0.Tag == 0) && (decide (0 ≤ a0.Count))) with hb5 | hb5
        · rw [hb5] at f35
          refine Stk.run 4 (fun t H n => t 39 = .sc (.bool (decide (a0.Count ≤ 64)))) (fun J hJ => ?_) ?_
          · simp [-splice, f1, f35, b_b1, ld_34_2_3]
            exact hJ _ _ _ (by simp [-splice, f1, f35, b_b1, ld_34_2_3])
          clear f1 f35 b_b1 l_b1
          rintro t H n f39
          refine Stk.on ?_
          exact Stk.ln 0 (by decide) (hJ5 _ _ _ (f39.trans (congrArg (fun q => AV.sc (.bool q)) (by rw [hb5]; rfl))))
        · rw [hb5] at f35
          refine Stk.run 4 (fun t H n => t 39 = .sc (.bool false)) (fun J hJ => ?_) ?_
          · simp [-splice, f1, f35, b_b1]
            exact hJ _ _ _ (by simp [-splice, f1, f35, b_b1])
          clear f1 f35 b_b1 l_b1
          rintro t H n f39
          refine Stk.on ?_
          exact Stk.ln 0 (by decide) (hJ5 _ _ _ (f39.trans (congrArg (fun q => AV.sc (.bool q)) (by rw [hb5]; rfl))))
      clear f1 f35 b_b1 l_b1
      rintro t H n f39
      refine Stk.run 1 (fun t H n => t 2 = .sc (.bool (((a0.Tag == 0) && (decide (0 ≤ a0.Count))) && (decide (a0.Count ≤ 64))))) (fun J hJ => ?_) ?_
      · simp [-splice, f39]
        exact hJ _ _ _ (by simp [-splice, f39])
      clear f39
      rintro t H n f2
      refine Stk.on ?_
      refine Stk.rt ?_
      have hq := Option.some.inj h; subst hq
      exact (hr _ _ _ (.sc (.bool (((a0.Tag == 0) && (decide (0 ≤ a0.Count))) && (decide (a0.Count ≤ 64))))) ([]) (by simp [f2]) (.inr (.inr (.free (rfl))))).1
    · have h := cF hb3 h
      refine Stk.sk ?_
      refine Stk.bn ?_
      refine Stk.sq ?_
      refine Stk.rg ?_
      refine Stk.run 1 (fun t H n => t 2 = .sc (.bool false)) (fun J hJ => ?_) ?_
      · simp [-splice, f1, f25, b_b1]
        exact hJ _ _ _ (by simp [-splice, f1, f25, b_b1])
      clear f1 f25 b_b1 l_b1
      rintro t H n f2
      refine Stk.on ?_
      refine Stk.rt ?_
      have hq := Option.some.inj h; subst hq
      exact (hr _ _ _ (.sc (.bool false)) ([]) (by simp [f2]) (.inr (.inr (.free (rfl))))).1
theorem ok_heap_Head (F : Nat) (a0 : api_Head) (r : (Int × Bool)) (h : heap_Head F a0 = some r) : RunF Try.prog T.T 55 [.agg (c34 a0)] (.tup [.sc (.int .u64 r.1), .sc (.bool r.2)]) := by
  rw [heap_Head] at h
  refine RunF.z Try.func55 rfl rfl rfl rfl rfl (fun C hr => ?_)
  refine Stk.gen (fun t H n => t 0 = .agg (c34 a0)) (by simp) ?_
  rintro t H n f0
  refine Stk.sq ?_
  refine Stk.rg ?_
  refine Stk.om (mop_box T.t34 (cs := c34 a0) (by show partOk (t 0) = true; rw [f0]; rfl) (by show cellsOf (t 0) = _; rw [f0]; rfl)) (by simp [f0]) rfl (fun t' ht' => ?_)
  refine Stk.gen (fun t H n => ∃ b1, t 1 = .own b1 0 ∧ H b1 = some (.cells (c34 a0) 34) ∧ b1 < n) ⟨n, by simp [ht'], upd_same _ _ _, Nat.lt_succ_self _⟩ ?_
  clear f0 ht' t'
  rintro t H n ⟨b1, f1, b_b1, l_b1⟩
  refine Stk.run 2 (fun t H n => t 1 = .own b1 0 ∧ H b1 = some (.cells (c34 a0) 34) ∧ b1 < n) (fun J hJ => ?_) ?_
  · simp [-splice, f1, b_b1]
    exact hJ _ _ _ ⟨by simp [f1], b_b1, l_b1⟩
  clear f1 b_b1 l_b1
  rintro t H n ⟨f1, b_b1, l_b1⟩
  refine Stk.on ?_
  refine Stk.sq ?_
  refine Stk.sq ?_
  refine Stk.rg ?_
  refine Stk.run 1 (fun t H n => t 1 = .own b1 0 ∧ t 4 = .agg (c34 a0) ∧ H b1 = some (.cells (c34 a0) 34) ∧ b1 < n) (fun J hJ => ?_) ?_
  · simp [-splice, f1, b_b1, ld_34_0_34]
    exact hJ _ _ _ ⟨by simp [f1], by simp [-splice, f1, b_b1, ld_34_0_34], b_b1, l_b1⟩
  clear f1 b_b1 l_b1
  rintro t H n ⟨f1, f4, b_b1, l_b1⟩
  obtain ⟨x2, hx2, h⟩ := bnd h
  refine Stk.cv (g := 112) (args := [.agg (c34 a0)]) (args' := [.agg (c34 a0)]) (v := .sc (.bool x2)) [] (ok_heap_can F _ _ hx2) (by simp [f1, f4]) rfl rfl (by simp [f1, f4]) (.cons (.free (fr34 _)) (.nil)) (.inl ⟨rfl, rfl⟩) (fun t' ht' => ?_)
  refine Stk.gen (fun t H n => t 1 = .own b1 0 ∧ t 5 = .sc (.bool x2) ∧ H b1 = some (.cells (c34 a0) 34) ∧ b1 < n) ⟨by simp [ht', f1], by simp [ht'], b_b1, l_b1⟩ ?_
  clear f1 f4 b_b1 l_b1 ht' t'
  rintro t H n ⟨f1, f5, b_b1, l_b1⟩
  refine Stk.run 1 (fun t H n => t 1 = .own b1 0 ∧ t 6 = .sc (.bool (!x2)) ∧ H b1 = some (.cells (c34 a0) 34) ∧ b1 < n) (fun J hJ => ?_) ?_
  · simp [-splice, f1, f5, b_b1]
    exact hJ _ _ _ ⟨by simp [f1], by simp [-splice, f1, f5, b_b1], b_b1, l_b1⟩
  clear f1 f5 b_b1 l_b1
  rintro t H n ⟨f1, f6, b_b1, l_b1⟩
  refine Stk.on ?_
  refine Stk.cond (!x2) (by exact f6) (fun hb3 => ?_) (fun hb3 => ?_)
  · have h := cT hb3 h
    refine Stk.sq ?_
    refine Stk.rg ?_
    refine Stk.run 2 (fun t H n => t 2 = .sc (.int .u64 0) ∧ t 3 = .sc (.bool false)) (fun J hJ => ?_) ?_
    · simp [-splice, f1, f6, b_b1]
      exact hJ _ _ _ ⟨by simp [-splice, f1, f6, b_b1], by simp [-splice, f1, f6, b_b1]⟩
    clear f1 f6 b_b1 l_b1
    rintro t H n ⟨f2, f3⟩
    refine Stk.on ?_
    refine Stk.rt ?_
    have hq := Option.some.inj h; subst hq
    exact (hr _ _ _ (.tup [.sc (.int .u64 0), .sc (.bool false)]) ([]) (by simp [f2, f3]) (.inr (.inr (.tup (.cons (.free (rfl)) (.cons (.free (rfl)) (.nil))))))).1
  · have h := cF hb3 h
    refine Stk.sk ?_
    refine Stk.sq ?_
    refine Stk.rg ?_
    refine Stk.run 13 (fun t H n => t 2 = .sc (.int .u64 (IntKind.u64.wrap (borI .i64 (borI .i64 (IntKind.i64.wrap (a0.Kind * 65536)) (IntKind.i64.wrap (a0.Tag * 256))) a0.Count))) ∧ t 3 = .sc (.bool true)) (fun J hJ => ?_) ?_
    · simp [-splice, f1, f6, b_b1, ld_34_0_3, ld_34_1_3, ld_34_2_3]
      exact hJ _ _ _ ⟨by simp [-splice, f1, f6, b_b1, ld_34_0_3, ld_34_1_3, ld_34_2_3], by simp [-splice, f1, f6, b_b1, ld_34_0_3, ld_34_1_3, ld_34_2_3]⟩
    clear f1 f6 b_b1 l_b1
    rintro t H n ⟨f2, f3⟩
    refine Stk.on ?_
    refine Stk.rt ?_
    have hq := Option.some.inj h; subst hq
    exact (hr _ _ _ (.tup [.sc (.int .u64 (IntKind.u64.wrap (borI .i64 (borI .i64 (IntKind.i64.wrap (a0.Kind * 65536)) (IntKind.i64.wrap (a0.Tag * 256))) a0.Count))), .sc (.bool true)]) ([]) (by simp [f2, f3]) (.inr (.inr (.tup (.cons (.free (rfl)) (.cons (.free (rfl)) (.nil))))))).1
theorem ok_R16_can (F : Nat) (a0 : api_Head) (r : Bool) (h : R16_can F a0 = some r) : RunF Try.prog T.T 92 [.agg (c34 a0)] (.sc (.bool r)) := by
  rw [R16_can] at h
  refine RunF.z Try.func92 rfl rfl rfl rfl rfl (fun C hr => ?_)
  refine Stk.gen (fun t H n => t 0 = .agg (c34 a0)) (by simp) ?_
  rintro t H n f0
  refine Stk.sq ?_
  refine Stk.rg ?_
  refine Stk.om (mop_box T.t34 (cs := c34 a0) (by show partOk (t 0) = true; rw [f0]; rfl) (by show cellsOf (t 0) = _; rw [f0]; rfl)) (by simp [f0]) rfl (fun t' ht' => ?_)
  refine Stk.gen (fun t H n => ∃ b1, t 1 = .own b1 0 ∧ H b1 = some (.cells (c34 a0) 34) ∧ b1 < n) ⟨n, by simp [ht'], upd_same _ _ _, Nat.lt_succ_self _⟩ ?_
  clear f0 ht' t'
  rintro t H n ⟨b1, f1, b_b1, l_b1⟩
  refine Stk.run 1 (fun t H n => t 1 = .own b1 0 ∧ H b1 = some (.cells (c34 a0) 34) ∧ b1 < n) (fun J hJ => ?_) ?_
  · simp [-splice, f1, b_b1]
    exact hJ _ _ _ ⟨by simp [f1], b_b1, l_b1⟩
  clear f1 b_b1 l_b1
  rintro t H n ⟨f1, b_b1, l_b1⟩
  refine Stk.on ?_
  refine Stk.sq ?_
  refine Stk.sq ?_
  refine Stk.rg ?_
  refine Stk.run 3 (fun t H n => t 1 = .own b1 0 ∧ t 5 = .sc (.bool (a0.Kind == 1)) ∧ H b1 = some (.cells (c34 a0) 34) ∧ b1 < n) (fun J hJ => ?_) ?_
  · simp [-splice, f1, b_b1, ld_34_0_3]
    exact hJ _ _ _ ⟨by simp [f1], by simp [-splice, f1, b_b1, ld_34_0_3], b_b1, l_b1⟩
  clear f1 b_b1 l_b1
  rintro t H n ⟨f1, f5, b_b1, l_b1⟩
  refine Stk.on ?_
  refine Stk.cond (a0.Kind == 1) (by exact f5) (fun hb2 => ?_) (fun hb2 => ?_)
  · have h := cT hb2 h
    refine Stk.sq ?_
    refine Stk.rg ?_
    refine Stk.run 4 (fun t H n => t 1 = .own b1 0 ∧ t 9 = .sc (.bool (a0.Tag == 0)) ∧ H b1 = some (.cells (c34 a0) 34) ∧ b1 < n) (fun J hJ => ?_) ?_
    · simp [-splice, f1, f5, b_b1, ld_34_1_3]
      exact hJ _ _ _ ⟨by simp [f1], by simp [-splice, f1, f5, b_b1, ld_34_1_3], b_b1, l_b1⟩
    clear f1 f5 b_b1 l_b1
    rintro t H n ⟨f1, f9, b_b1, l_b1⟩
    refine Stk.jo 4 (fun t H n => t 1 = .own b1 0 ∧ t 13 = .sc (.bool ((a0.Tag == 0) && (decide (0 ≤ a0.Count)))) ∧ H b1 = some (.cells (c34 a0) 34) ∧ b1 < n) (fun J1 hJ1 => ?_) ?_
    · rcases Bool.eq_false_or_eq_true (a0.Tag == 0) with hb1 | hb1
      · rw [hb1] at f9
        refine Stk.run 4 (fun t H n => t 1 = .own b1 0 ∧ t 13 = .sc (.bool (decide (0 ≤ a0.Count))) ∧ H b1 = some (.cells (c34 a0) 34) ∧ b1 < n) (fun J hJ => ?_) ?_
        · simp [-splice, f1, f9, b_b1, ld_34_2_3]
          exact hJ _ _ _ ⟨by simp [f1], by simp [-splice, f1, f9, b_b1, ld_34_2_3], b_b1, l_b1⟩
        clear f1 f9 b_b1 l_b1
        rintro t H n ⟨f1, f13, b_b1, l_b1⟩
        refine Stk.on ?_
        exact Stk.ln 0 (by decide) (hJ1 _ _ _ ⟨f1, f13.trans (congrArg (fun q => AV.sc (.bool q)) (by rw [hb1]; rfl)), b_b1, l_b1⟩)
      · rw [hb1] at f9
        refine Stk.run 4 (fun t H n => t 1 = .own b1 0 ∧ t 13 = .sc (.bool false) ∧ H b1 = some (.cells (c34 a0) 34) ∧ b1 < n) (fun J hJ => ?_) ?_
        · simp [-splice, f1, f9, b_b1]
          exact hJ _ _ _ ⟨by simp [f1], by simp [-splice, f1, f9, b_b1], b_b1, l_b1⟩
        clear f1 f9 b_b1 l_b1
        rintro t H n ⟨f1, f13, b_b1, l_b1⟩
        refine Stk.on ?_
        exact Stk.ln 0 (by decide) (hJ1 _ _ _ ⟨f1, f13.trans (congrArg (fun q => AV.sc (.bool q)) (by rw [hb1]; rfl)), b_b1, l_b1⟩)
    clear f1 f9 b_b1 l_b1
    rintro t H n ⟨f1, f13, b_b1, l_b1⟩
    refine Stk.run 1 (fun t H n => t 1 = .own b1 0 ∧ t 14 = .sc (.bool ((a0.Tag == 0) && (decide (0 ≤ a0.Count)))) ∧ H b1 = some (.cells (c34 a0) 34) ∧ b1 < n) (fun J hJ => ?_) ?_
    · simp [-splice, f1, f13, b_b1]
      exact hJ _ _ _ ⟨by simp [f1], by simp [-splice, f1, f13, b_b1], b_b1, l_b1⟩
    clear f1 f13 b_b1 l_b1
    rintro t H n ⟨f1, f14, b_b1, l_b1⟩
    refine Stk.jo 4 (fun t H n => t 18 = .sc (.bool (((a0.Tag == 0) && (decide (0 ≤ a0.Count))) && (decide (a0.Count ≤ 64))))) (fun J2 hJ2 => ?_) ?_
    · rcases Bool.eq_false_or_eq_true ((a0.Tag == 0) && (decide (0 ≤ a0.Count))) with hb2 | hb2
      · rw [hb2] at f14
        refine Stk.run 4 (fun t H n => t 18 = .sc (.bool (decide (a0.Count ≤ 64)))) (fun J hJ => ?_) ?_
        · simp [-splice, f1, f14, b_b1, ld_34_2_3]
          exact hJ _ _ _ (by simp [-splice, f1, f14, b_b1, ld_34_2_3])
        clear f1 f14 b_b1 l_b1
        rintro t H n f18
        refine Stk.on ?_
        exact Stk.ln 0 (by decide) (hJ2 _ _ _ (f18.trans (congrArg (fun q => AV.sc (.bool q)) (by rw [hb2]; rfl))))
      · rw [hb2] at f14
        refine Stk.run 4 (fun t H n => t 18 = .sc (.bool false)) (fun J hJ => ?_) ?_
        · simp [-splice, f1, f14, b_b1]
          exact hJ _ _ _ (by simp [-splice, f1, f14, b_b1])
        clear f1 f14 b_b1 l_b1
        rintro t H n f18
        refine Stk.on ?_
        exact Stk.ln 0 (by decide) (hJ2 _ _ _ (f18.trans (congrArg (fun q => AV.sc (.bool q)) (by rw [hb2]; rfl))))
    clear f1 f14 b_b1 l_b1
    rintro t H n f18
    refine Stk.run 1 (fun t H n => t 2 = .sc (.bool (((a0.Tag == 0) && (decide (0 ≤ a0.Count))) && (decide (a0.Count ≤ 64))))) (fun J hJ => ?_) ?_
    · simp [-splice, f18]
      exact hJ _ _ _ (by simp [-splice, f18])
    clear f18
    rintro t H n f2
    refine Stk.on ?_
    refine Stk.rt ?_
    have hq := Option.some.inj h; subst hq
    exact (hr _ _ _ (.sc (.bool (((a0.Tag == 0) && (decide (0 ≤ a0.Count))) && (decide (a0.Count ≤ 64))))) ([]) (by simp [f2]) (.inr (.inr (.free (rfl))))).1
  · have h := cF hb2 h
    refine Stk.sk ?_
    refine Stk.sq ?_
    refine Stk.rg ?_
    refine Stk.run 4 (fun t H n => t 1 = .own b1 0 ∧ t 22 = .sc (.bool (a0.Kind == 0)) ∧ H b1 = some (.cells (c34 a0) 34) ∧ b1 < n) (fun J hJ => ?_) ?_
    · simp [-splice, f1, f5, b_b1, ld_34_0_3]
      exact hJ _ _ _ ⟨by simp [f1], by simp [-splice, f1, f5, b_b1, ld_34_0_3], b_b1, l_b1⟩
    clear f1 f5 b_b1 l_b1
    rintro t H n ⟨f1, f22, b_b1, l_b1⟩
    refine Stk.jo 4 (fun t H n => t 1 = .own b1 0 ∧ t 26 = .sc (.bool ((a0.Kind == 0) && (decide (0 ≤ a0.Tag)))) ∧ H b1 = some (.cells (c34 a0) 34) ∧ b1 < n) (fun J3 hJ3 => ?_) ?_
    · rcases Bool.eq_false_or_eq_true (a0.Kind == 0) with hb3 | hb3
      · rw [hb3] at f22
        refine Stk.run 4 (fun t H n => t 1 = .own b1 0 ∧ t 26 = .sc (.bool (decide (0 ≤ a0.Tag))) ∧ H b1 = some (.cells (c34 a0) 34) ∧ b1 < n) (fun J hJ => ?_) ?_
        · simp [-splice, f1, f22, b_b1, ld_34_1_3]
          exact hJ _ _ _ ⟨by simp [f1], by simp [-splice, f1, f22, b_b1, ld_34_1_3], b_b1, l_b1⟩
        clear f1 f22 b_b1 l_b1
        rintro t H n ⟨f1, f26, b_b1, l_b1⟩
        refine Stk.on ?_
        exact Stk.ln 0 (by decide) (hJ3 _ _ _ ⟨f1, f26.trans (congrArg (fun q => AV.sc (.bool q)) (by rw [hb3]; rfl)), b_b1, l_b1⟩)
      · rw [hb3] at f22
        refine Stk.run 4 (fun t H n => t 1 = .own b1 0 ∧ t 26 = .sc (.bool false) ∧ H b1 = some (.cells (c34 a0) 34) ∧ b1 < n) (fun J hJ => ?_) ?_
        · simp [-splice, f1, f22, b_b1]
          exact hJ _ _ _ ⟨by simp [f1], by simp [-splice, f1, f22, b_b1], b_b1, l_b1⟩
        clear f1 f22 b_b1 l_b1
        rintro t H n ⟨f1, f26, b_b1, l_b1⟩
        refine Stk.on ?_
        exact Stk.ln 0 (by decide) (hJ3 _ _ _ ⟨f1, f26.trans (congrArg (fun q => AV.sc (.bool q)) (by rw [hb3]; rfl)), b_b1, l_b1⟩)
    clear f1 f22 b_b1 l_b1
    rintro t H n ⟨f1, f26, b_b1, l_b1⟩
    refine Stk.run 1 (fun t H n => t 1 = .own b1 0 ∧ t 27 = .sc (.bool ((a0.Kind == 0) && (decide (0 ≤ a0.Tag)))) ∧ H b1 = some (.cells (c34 a0) 34) ∧ b1 < n) (fun J hJ => ?_) ?_
    · simp [-splice, f1, f26, b_b1]
      exact hJ _ _ _ ⟨by simp [f1], by simp [-splice, f1, f26, b_b1], b_b1, l_b1⟩
    clear f1 f26 b_b1 l_b1
    rintro t H n ⟨f1, f27, b_b1, l_b1⟩
    refine Stk.jo 4 (fun t H n => t 1 = .own b1 0 ∧ t 31 = .sc (.bool (((a0.Kind == 0) && (decide (0 ≤ a0.Tag))) && (decide (a0.Tag ≤ 15)))) ∧ H b1 = some (.cells (c34 a0) 34) ∧ b1 < n) (fun J4 hJ4 => ?_) ?_
    · rcases Bool.eq_false_or_eq_true ((a0.Kind == 0) && (decide (0 ≤ a0.Tag))) with hb4 | hb4
      · rw [hb4] at f27
        refine Stk.run 4 (fun t H n => t 1 = .own b1 0 ∧ t 31 = .sc (.bool (decide (a0.Tag ≤ 15))) ∧ H b1 = some (.cells (c34 a0) 34) ∧ b1 < n) (fun J hJ => ?_) ?_
        · simp [-splice, f1, f27, b_b1, ld_34_1_3]
          exact hJ _ _ _ ⟨by simp [f1], by simp [-splice, f1, f27, b_b1, ld_34_1_3], b_b1, l_b1⟩
        clear f1 f27 b_b1 l_b1
        rintro t H n ⟨f1, f31, b_b1, l_b1⟩
        refine Stk.on ?_
        exact Stk.ln 0 (by decide) (hJ4 _ _ _ ⟨f1, f31.trans (congrArg (fun q => AV.sc (.bool q)) (by rw [hb4]; rfl)), b_b1, l_b1⟩)
      · rw [hb4] at f27
        refine Stk.run 4 (fun t H n => t 1 = .own b1 0 ∧ t 31 = .sc (.bool false) ∧ H b1 = some (.cells (c34 a0) 34) ∧ b1 < n) (fun J hJ => ?_) ?_
        · simp [-splice, f1, f27, b_b1]
          exact hJ _ _ _ ⟨by simp [f1], by simp [-splice, f1, f27, b_b1], b_b1, l_b1⟩
        clear f1 f27 b_b1 l_b1
        rintro t H n ⟨f1, f31, b_b1, l_b1⟩
        refine Stk.on ?_
        exact Stk.ln 0 (by decide) (hJ4 _ _ _ ⟨f1, f31.trans (congrArg (fun q => AV.sc (.bool q)) (by rw [hb4]; rfl)), b_b1, l_b1⟩)
    clear f1 f27 b_b1 l_b1
    rintro t H n ⟨f1, f31, b_b1, l_b1⟩
    refine Stk.run 1 (fun t H n => t 1 = .own b1 0 ∧ t 32 = .sc (.bool (((a0.Kind == 0) && (decide (0 ≤ a0.Tag))) && (decide (a0.Tag ≤ 15)))) ∧ H b1 = some (.cells (c34 a0) 34) ∧ b1 < n) (fun J hJ => ?_) ?_
    · simp [-splice, f1, f31, b_b1]
      exact hJ _ _ _ ⟨by simp [f1], by simp [-splice, f1, f31, b_b1], b_b1, l_b1⟩
    clear f1 f31 b_b1 l_b1
    rintro t H n ⟨f1, f32, b_b1, l_b1⟩
    refine Stk.jo 4 (fun t H n => t 1 = .own b1 0 ∧ t 36 = .sc (.bool ((((a0.Kind == 0) && (decide (0 ≤ a0.Tag))) && (decide (a0.Tag ≤ 15))) && (decide (1 ≤ a0.Count)))) ∧ H b1 = some (.cells (c34 a0) 34) ∧ b1 < n) (fun J5 hJ5 => ?_) ?_
    · rcases Bool.eq_false_or_eq_true (((a0.Kind == 0) && (decide (0 ≤ a0.Tag))) && (decide (a0.Tag ≤ 15))) with hb5 | hb5
      · rw [hb5] at f32
        refine Stk.run 4 (fun t H n => t 1 = .own b1 0 ∧ t 36 = .sc (.bool (decide (1 ≤ a0.Count))) ∧ H b1 = some (.cells (c34 a0) 34) ∧ b1 < n) (fun J hJ => ?_) ?_
        · simp [-splice, f1, f32, b_b1, ld_34_2_3]
          exact hJ _ _ _ ⟨by simp [f1], by simp [-splice, f1, f32, b_b1, ld_34_2_3], b_b1, l_b1⟩
        clear f1 f32 b_b1 l_b1
        rintro t H n ⟨f1, f36, b_b1, l_b1⟩
        refine Stk.on ?_
        exact Stk.ln 0 (by decide) (hJ5 _ _ _ ⟨f1, f36.trans (congrArg (fun q => AV.sc (.bool q)) (by rw [hb5]; rfl)), b_b1, l_b1⟩)
      · rw [hb5] at f32
        refine Stk.run 4 (fun t H n => t 1 = .own b1 0 ∧ t 36 = .sc (.bool false) ∧ H b1 = some (.cells (c34 a0) 34) ∧ b1 < n) (fun J hJ => ?_) ?_
        · simp [-splice, f1, f32, b_b1]
          exact hJ _ _ _ ⟨by simp [f1], by simp [-splice, f1, f32, b_b1], b_b1, l_b1⟩
        clear f1 f32 b_b1 l_b1
        rintro t H n ⟨f1, f36, b_b1, l_b1⟩
        refine Stk.on ?_
        exact Stk.ln 0 (by decide) (hJ5 _ _ _ ⟨f1, f36.trans (congrArg (fun q => AV.sc (.bool q)) (by rw [hb5]; rfl)), b_b1, l_b1⟩)
    clear f1 f32 b_b1 l_b1
    rintro t H n ⟨f1, f36, b_b1, l_b1⟩
    refine Stk.run 1 (fun t H n => t 1 = .own b1 0 ∧ t 37 = .sc (.bool ((((a0.Kind == 0) && (decide (0 ≤ a0.Tag))) && (decide (a0.Tag ≤ 15))) && (decide (1 ≤ a0.Count)))) ∧ H b1 = some (.cells (c34 a0) 34) ∧ b1 < n) (fun J hJ => ?_) ?_
    · simp [-splice, f1, f36, b_b1]
      exact hJ _ _ _ ⟨by simp [f1], by simp [-splice, f1, f36, b_b1], b_b1, l_b1⟩
    clear f1 f36 b_b1 l_b1
    rintro t H n ⟨f1, f37, b_b1, l_b1⟩
    refine Stk.jo 4 (fun t H n => t 41 = .sc (.bool (((((a0.Kind == 0) && (decide (0 ≤ a0.Tag))) && (decide (a0.Tag ≤ 15))) && (decide (1 ≤ a0.Count))) && (decide (a0.Count ≤ 6))))) (fun J6 hJ6 => ?_) ?_
    · rcases Bool.eq_false_or_eq_true ((((a0.Kind == 0) && (decide (0 ≤ a0.Tag))) && (decide (a0.Tag ≤ 15))) && (decide (1 ≤ a0.Count))) with hb6 | hb6
      · rw [hb6] at f37
        refine Stk.run 4 (fun t H n => t 41 = .sc (.bool (decide (a0.Count ≤ 6)))) (fun J hJ => ?_) ?_
        · simp [-splice, f1, f37, b_b1, ld_34_2_3]
          exact hJ _ _ _ (by simp [-splice, f1, f37, b_b1, ld_34_2_3])
        clear f1 f37 b_b1 l_b1
        rintro t H n f41
        refine Stk.on ?_
        exact Stk.ln 0 (by decide) (hJ6 _ _ _ (f41.trans (congrArg (fun q => AV.sc (.bool q)) (by rw [hb6]; rfl))))
      · rw [hb6] at f37
        refine Stk.run 4 (fun t H n => t 41 = .sc (.bool false)) (fun J hJ => ?_) ?_
        · simp [-splice, f1, f37, b_b1]
          exact hJ _ _ _ (by simp [-splice, f1, f37, b_b1])
        clear f1 f37 b_b1 l_b1
        rintro t H n f41
        refine Stk.on ?_
        exact Stk.ln 0 (by decide) (hJ6 _ _ _ (f41.trans (congrArg (fun q => AV.sc (.bool q)) (by rw [hb6]; rfl))))
    clear f1 f37 b_b1 l_b1
    rintro t H n f41
    refine Stk.run 1 (fun t H n => t 2 = .sc (.bool (((((a0.Kind == 0) && (decide (0 ≤ a0.Tag))) && (decide (a0.Tag ≤ 15))) && (decide (1 ≤ a0.Count))) && (decide (a0.Count ≤ 6))))) (fun J hJ => ?_) ?_
    · simp [-splice, f41]
      exact hJ _ _ _ (by simp [-splice, f41])
    clear f41
    rintro t H n f2
    refine Stk.on ?_
    refine Stk.rt ?_
    have hq := Option.some.inj h; subst hq
    exact (hr _ _ _ (.sc (.bool (((((a0.Kind == 0) && (decide (0 ≤ a0.Tag))) && (decide (a0.Tag ≤ 15))) && (decide (1 ≤ a0.Count))) && (decide (a0.Count ≤ 6))))) ([]) (by simp [f2]) (.inr (.inr (.free (rfl))))).1
theorem ok_R16_Head (F : Nat) (a0 : api_Head) (r : (Int × Bool)) (h : R16_Head F a0 = some r) : RunF Try.prog T.T 56 [.agg (c34 a0)] (.tup [.sc (.int .u64 r.1), .sc (.bool r.2)]) := by
  rw [R16_Head] at h
  refine RunF.z Try.func56 rfl rfl rfl rfl rfl (fun C hr => ?_)
  refine Stk.gen (fun t H n => t 0 = .agg (c34 a0)) (by simp) ?_
  rintro t H n f0
  refine Stk.sq ?_
  refine Stk.rg ?_
  refine Stk.om (mop_box T.t34 (cs := c34 a0) (by show partOk (t 0) = true; rw [f0]; rfl) (by show cellsOf (t 0) = _; rw [f0]; rfl)) (by simp [f0]) rfl (fun t' ht' => ?_)
  refine Stk.gen (fun t H n => ∃ b1, t 1 = .own b1 0 ∧ H b1 = some (.cells (c34 a0) 34) ∧ b1 < n) ⟨n, by simp [ht'], upd_same _ _ _, Nat.lt_succ_self _⟩ ?_
  clear f0 ht' t'
  rintro t H n ⟨b1, f1, b_b1, l_b1⟩
  refine Stk.run 2 (fun t H n => t 1 = .own b1 0 ∧ H b1 = some (.cells (c34 a0) 34) ∧ b1 < n) (fun J hJ => ?_) ?_
  · simp [-splice, f1, b_b1]
    exact hJ _ _ _ ⟨by simp [f1], b_b1, l_b1⟩
  clear f1 b_b1 l_b1
  rintro t H n ⟨f1, b_b1, l_b1⟩
  refine Stk.on ?_
  refine Stk.sq ?_
  refine Stk.sq ?_
  refine Stk.rg ?_
  refine Stk.run 1 (fun t H n => t 1 = .own b1 0 ∧ t 4 = .agg (c34 a0) ∧ H b1 = some (.cells (c34 a0) 34) ∧ b1 < n) (fun J hJ => ?_) ?_
  · simp [-splice, f1, b_b1, ld_34_0_34]
    exact hJ _ _ _ ⟨by simp [f1], by simp [-splice, f1, b_b1, ld_34_0_34], b_b1, l_b1⟩
  clear f1 b_b1 l_b1
  rintro t H n ⟨f1, f4, b_b1, l_b1⟩
  obtain ⟨x2, hx2, h⟩ := bnd h
  refine Stk.cv (g := 92) (args := [.agg (c34 a0)]) (args' := [.agg (c34 a0)]) (v := .sc (.bool x2)) [] (ok_R16_can F _ _ hx2) (by simp [f1, f4]) rfl rfl (by simp [f1, f4]) (.cons (.free (fr34 _)) (.nil)) (.inl ⟨rfl, rfl⟩) (fun t' ht' => ?_)
  refine Stk.gen (fun t H n => t 1 = .own b1 0 ∧ t 5 = .sc (.bool x2) ∧ H b1 = some (.cells (c34 a0) 34) ∧ b1 < n) ⟨by simp [ht', f1], by simp [ht'], b_b1, l_b1⟩ ?_
  clear f1 f4 b_b1 l_b1 ht' t'
  rintro t H n ⟨f1, f5, b_b1, l_b1⟩
  refine Stk.run 1 (fun t H n => t 1 = .own b1 0 ∧ t 6 = .sc (.bool (!x2)) ∧ H b1 = some (.cells (c34 a0) 34) ∧ b1 < n) (fun J hJ => ?_) ?_
  · simp [-splice, f1, f5, b_b1]
    exact hJ _ _ _ ⟨by simp [f1], by simp [-splice, f1, f5, b_b1], b_b1, l_b1⟩
  clear f1 f5 b_b1 l_b1
  rintro t H n ⟨f1, f6, b_b1, l_b1⟩
  refine Stk.on ?_
  refine Stk.cond (!x2) (by exact f6) (fun hb3 => ?_) (fun hb3 => ?_)
  · have h := cT hb3 h
    refine Stk.sq ?_
    refine Stk.rg ?_
    refine Stk.run 2 (fun t H n => t 2 = .sc (.int .u64 0) ∧ t 3 = .sc (.bool false)) (fun J hJ => ?_) ?_
    · simp [-splice, f1, f6, b_b1]
      exact hJ _ _ _ ⟨by simp [-splice, f1, f6, b_b1], by simp [-splice, f1, f6, b_b1]⟩
    clear f1 f6 b_b1 l_b1
    rintro t H n ⟨f2, f3⟩
    refine Stk.on ?_
    refine Stk.rt ?_
    have hq := Option.some.inj h; subst hq
    exact (hr _ _ _ (.tup [.sc (.int .u64 0), .sc (.bool false)]) ([]) (by simp [f2, f3]) (.inr (.inr (.tup (.cons (.free (rfl)) (.cons (.free (rfl)) (.nil))))))).1
  · have h := cF hb3 h
    refine Stk.sk ?_
    refine Stk.sq ?_
    refine Stk.rg ?_
    refine Stk.run 15 (fun t H n => t 2 = .sc (.int .u64 (IntKind.u64.wrap ((IntKind.u64.wrap ((IntKind.u64.wrap a0.Count) + (IntKind.u64.wrap (256 * (IntKind.u64.wrap a0.Tag))))) + (IntKind.u64.wrap (65536 * (IntKind.u64.wrap a0.Kind)))))) ∧ t 3 = .sc (.bool true)) (fun J hJ => ?_) ?_
    · simp [-splice, f1, f6, b_b1, ld_34_2_3, ld_34_1_3, ld_34_0_3]
      exact hJ _ _ _ ⟨by simp [-splice, f1, f6, b_b1, ld_34_2_3, ld_34_1_3, ld_34_0_3], by simp [-splice, f1, f6, b_b1, ld_34_2_3, ld_34_1_3, ld_34_0_3]⟩
    clear f1 f6 b_b1 l_b1
    rintro t H n ⟨f2, f3⟩
    refine Stk.on ?_
    refine Stk.rt ?_
    have hq := Option.some.inj h; subst hq
    exact (hr _ _ _ (.tup [.sc (.int .u64 (IntKind.u64.wrap ((IntKind.u64.wrap ((IntKind.u64.wrap a0.Count) + (IntKind.u64.wrap (256 * (IntKind.u64.wrap a0.Tag))))) + (IntKind.u64.wrap (65536 * (IntKind.u64.wrap a0.Kind)))))), .sc (.bool true)]) ([]) (by simp [f2, f3]) (.inr (.inr (.tup (.cons (.free (rfl)) (.cons (.free (rfl)) (.nil))))))).1
theorem ok_heap_Read (F : Nat) (a0 : Int) (r : (api_Head × Bool)) (h : heap_Read F a0 = some r) : RunF Try.prog T.T 57 [.sc (.int .u64 a0)] (.tup [.agg (c34 r.1), .sc (.bool r.2)]) := by
  rw [heap_Read] at h
  refine RunF.z Try.func57 rfl rfl rfl rfl rfl (fun C hr => ?_)
  refine Stk.gen (fun t H n => t 0 = .sc (.int .u64 a0)) (by simp) ?_
  rintro t H n f0
  refine Stk.sq ?_
  refine Stk.rg ?_
  refine Stk.om (mop_alloc T.t34 (cs := c34 (api_Head.mk 0 0 0)) rfl) (by simp [f0]) rfl (fun t' ht' => ?_)
  refine Stk.gen (fun t H n => ∃ b1, t 0 = .sc (.int .u64 a0) ∧ t 2 = .own b1 0 ∧ H b1 = some (.cells (c34 (api_Head.mk 0 0 0)) 34) ∧ b1 < n) ⟨n, by simp [ht', f0], by simp [ht'], upd_same _ _ _, Nat.lt_succ_self _⟩ ?_
  clear f0 ht' t'
  rintro t H n ⟨b1, f0, f2, b_b1, l_b1⟩
  refine Stk.run 1 (fun t H n => t 0 = .sc (.int .u64 a0) ∧ t 2 = .own b1 0 ∧ H b1 = some (.cells (c34 (api_Head.mk 0 0 0)) 34) ∧ b1 < n) (fun J hJ => ?_) ?_
  · simp [-splice, f0, f2, b_b1]
    exact hJ _ _ _ ⟨by simp [f0], by simp [f2], b_b1, l_b1⟩
  clear f0 f2 b_b1 l_b1
  rintro t H n ⟨f0, f2, b_b1, l_b1⟩
  refine Stk.on ?_
  refine Stk.sq ?_
  refine Stk.rg ?_
  refine Stk.run 11 (fun t H n => t 0 = .sc (.int .u64 a0) ∧ t 2 = .own b1 0 ∧ t 10 = .sc (.int .i64 (IntKind.i64.wrap (bandI .u64 (IntKind.u64.wrap (a0.tdiv 65536)) 15))) ∧ t 14 = .sc (.int .i64 (IntKind.i64.wrap (bandI .u64 (IntKind.u64.wrap (a0.tdiv 256)) 255))) ∧ t 17 = .sc (.int .i64 (IntKind.i64.wrap (bandI .u64 a0 255))) ∧ H b1 = some (.cells (c34 (api_Head.mk 0 0 0)) 34) ∧ b1 < n) (fun J hJ => ?_) ?_
  · simp [-splice, f0, f2, b_b1]
    exact hJ _ _ _ ⟨by simp [f0], by simp [f2], by simp [-splice, f0, f2, b_b1], by simp [-splice, f0, f2, b_b1], by simp [-splice, f0, f2, b_b1], b_b1, l_b1⟩
  clear f0 f2 b_b1 l_b1
  rintro t H n ⟨f0, f2, f10, f14, f17, b_b1, l_b1⟩
  refine Stk.ov (vop_build T.t34 rfl rfl (cs := c34 (api_Head.mk 0 0 0)) (cs' := c34 (api_Head.mk (IntKind.i64.wrap (bandI .u64 (IntKind.u64.wrap (a0.tdiv 65536)) 15)) (IntKind.i64.wrap (bandI .u64 (IntKind.u64.wrap (a0.tdiv 256)) 255)) (IntKind.i64.wrap (bandI .u64 a0 255)))) rfl (.cons f10 rfl rfl rfl rfl (rfl) (by rw [len34]; decide) (st_34_0_3 _ _) (.cons f14 rfl rfl rfl rfl (rfl) (by rw [len34]; decide) (st_34_1_3 _ _) (.cons f17 rfl rfl rfl rfl (rfl) (by rw [len34]; decide) (st_34_2_3 _ _) (.nil))))) (by simp [f0, f2, f10, f14, f17]) rfl (fun t' ht' => ?_)
  refine Stk.gen (fun t H n => t 0 = .sc (.int .u64 a0) ∧ t 2 = .own b1 0 ∧ t 18 = .agg (c34 (api_Head.mk (IntKind.i64.wrap (bandI .u64 (IntKind.u64.wrap (a0.tdiv 65536)) 15)) (IntKind.i64.wrap (bandI .u64 (IntKind.u64.wrap (a0.tdiv 256)) 255)) (IntKind.i64.wrap (bandI .u64 a0 255)))) ∧ H b1 = some (.cells (c34 (api_Head.mk 0 0 0)) 34) ∧ b1 < n) ⟨by simp [ht', f0], by simp [ht', f2], by simp [ht'], b_b1, l_b1⟩ ?_
  clear f0 f2 f10 f14 f17 b_b1 l_b1 ht' t'
  rintro t H n ⟨f0, f2, f18, b_b1, l_b1⟩
  refine Stk.om (mop_alloc T.t34 (cs := c34 (api_Head.mk 0 0 0)) rfl) (by simp [f0, f2, f18]) rfl (fun t' ht' => ?_)
  refine Stk.gen (fun t H n => ∃ b2, t 0 = .sc (.int .u64 a0) ∧ t 2 = .own b1 0 ∧ t 4 = .own b2 0 ∧ t 18 = .agg (c34 (api_Head.mk (IntKind.i64.wrap (bandI .u64 (IntKind.u64.wrap (a0.tdiv 65536)) 15)) (IntKind.i64.wrap (bandI .u64 (IntKind.u64.wrap (a0.tdiv 256)) 255)) (IntKind.i64.wrap (bandI .u64 a0 255)))) ∧ H b1 = some (.cells (c34 (api_Head.mk 0 0 0)) 34) ∧ b1 < n ∧ H b2 = some (.cells (c34 (api_Head.mk 0 0 0)) 34) ∧ b2 < n ∧ b1 ≠ b2) ⟨n, by simp [ht', f0], by simp [ht', f2], by simp [ht'], by simp [ht', f18], (upd_ne _ _ (Nat.ne_of_lt l_b1)).trans b_b1, Nat.lt_succ_of_lt l_b1, upd_same _ _ _, Nat.lt_succ_self _, Nat.ne_of_lt l_b1⟩ ?_
  clear f0 f2 f18 b_b1 l_b1 ht' t'
  rintro t H n ⟨b2, f0, f2, f4, f18, b_b1, l_b1, b_b2, l_b2, d_b1_b2⟩
  refine Stk.om (mop_store (z := 3) rfl f4 b_b2 f18 (len34 _) (by rw [len34]; decide) (ok34 _) (st_34_0_34 _ _)) (by simp [f0, f2, f4, f18]) rfl (fun t' ht' => ?_)
  refine Stk.gen (fun t H n => t 0 = .sc (.int .u64 a0) ∧ t 2 = .own b1 0 ∧ t 4 = .own b2 0 ∧ H b1 = some (.cells (c34 (api_Head.mk 0 0 0)) 34) ∧ b1 < n ∧ H b2 = some (.cells (c34 (api_Head.mk (IntKind.i64.wrap (bandI .u64 (IntKind.u64.wrap (a0.tdiv 65536)) 15)) (IntKind.i64.wrap (bandI .u64 (IntKind.u64.wrap (a0.tdiv 256)) 255)) (IntKind.i64.wrap (bandI .u64 a0 255)))) 34) ∧ b2 < n ∧ b1 ≠ b2) ⟨by simp [ht', f0], by simp [ht', f2], by simp [ht', f4], (upd_ne _ _ d_b1_b2).trans b_b1, l_b1, upd_same _ _ _, l_b2, d_b1_b2⟩ ?_
  clear f0 f2 f4 f18 b_b1 l_b1 b_b2 l_b2 d_b1_b2 ht' t'
  rintro t H n ⟨f0, f2, f4, b_b1, l_b1, b_b2, l_b2, d_b1_b2⟩
  refine Stk.on ?_
  refine Stk.sq ?_
  refine Stk.sq ?_
  refine Stk.rg ?_
  refine Stk.run 1 (fun t H n => t 0 = .sc (.int .u64 a0) ∧ t 2 = .own b1 0 ∧ t 4 = .own b2 0 ∧ t 20 = .agg (c34 (api_Head.mk (IntKind.i64.wrap (bandI .u64 (IntKind.u64.wrap (a0.tdiv 65536)) 15)) (IntKind.i64.wrap (bandI .u64 (IntKind.u64.wrap (a0.tdiv 256)) 255)) (IntKind.i64.wrap (bandI .u64 a0 255)))) ∧ H b1 = some (.cells (c34 (api_Head.mk 0 0 0)) 34) ∧ b1 < n ∧ H b2 = some (.cells (c34 (api_Head.mk (IntKind.i64.wrap (bandI .u64 (IntKind.u64.wrap (a0.tdiv 65536)) 15)) (IntKind.i64.wrap (bandI .u64 (IntKind.u64.wrap (a0.tdiv 256)) 255)) (IntKind.i64.wrap (bandI .u64 a0 255)))) 34) ∧ b2 < n ∧ b1 ≠ b2) (fun J hJ => ?_) ?_
  · simp [-splice, f0, f2, f4, b_b1, b_b2, ld_34_0_34]
    exact hJ _ _ _ ⟨by simp [f0], by simp [f2], by simp [f4], by simp [-splice, f0, f2, f4, b_b1, b_b2, ld_34_0_34], b_b1, l_b1, b_b2, l_b2, d_b1_b2⟩
  clear f0 f2 f4 b_b1 l_b1 b_b2 l_b2 d_b1_b2
  rintro t H n ⟨f0, f2, f4, f20, b_b1, l_b1, b_b2, l_b2, d_b1_b2⟩
  obtain ⟨x3, hx3, h⟩ := bnd h
  refine Stk.cv (g := 55) (args := [.agg (c34 (api_Head.mk (IntKind.i64.wrap (bandI .u64 (IntKind.u64.wrap (a0.tdiv 65536)) 15)) (IntKind.i64.wrap (bandI .u64 (IntKind.u64.wrap (a0.tdiv 256)) 255)) (IntKind.i64.wrap (bandI .u64 a0 255))))]) (args' := [.agg (c34 (api_Head.mk (IntKind.i64.wrap (bandI .u64 (IntKind.u64.wrap (a0.tdiv 65536)) 15)) (IntKind.i64.wrap (bandI .u64 (IntKind.u64.wrap (a0.tdiv 256)) 255)) (IntKind.i64.wrap (bandI .u64 a0 255))))]) (v := .tup [.sc (.int .u64 x3.1), .sc (.bool x3.2)]) [] (ok_heap_Head F _ _ hx3) (by simp [f0, f2, f4, f20]) rfl rfl (by simp [f0, f2, f4, f20]) (.cons (.free (fr34 _)) (.nil)) (.inl ⟨rfl, by simp [free, freeL]⟩) (fun t' ht' => ?_)
  refine Stk.gen (fun t H n => t 0 = .sc (.int .u64 a0) ∧ t 2 = .own b1 0 ∧ t 4 = .own b2 0 ∧ t 21 = .tup [.sc (.int .u64 x3.1), .sc (.bool x3.2)] ∧ H b1 = some (.cells (c34 (api_Head.mk 0 0 0)) 34) ∧ b1 < n ∧ H b2 = some (.cells (c34 (api_Head.mk (IntKind.i64.wrap (bandI .u64 (IntKind.u64.wrap (a0.tdiv 65536)) 15)) (IntKind.i64.wrap (bandI .u64 (IntKind.u64.wrap (a0.tdiv 256)) 255)) (IntKind.i64.wrap (bandI .u64 a0 255)))) 34) ∧ b2 < n ∧ b1 ≠ b2) ⟨by simp [ht', f0], by simp [ht', f2], by simp [ht', f4], by simp [ht'], b_b1, l_b1, b_b2, l_b2, d_b1_b2⟩ ?_
  clear f0 f2 f4 f20 b_b1 l_b1 b_b2 l_b2 d_b1_b2 ht' t'
  rintro t H n ⟨f0, f2, f4, f21, b_b1, l_b1, b_b2, l_b2, d_b1_b2⟩
  refine Stk.run 5 (fun t H n => t 0 = .sc (.int .u64 a0) ∧ t 2 = .own b1 0 ∧ t 4 = .own b2 0 ∧ t 5 = .sc (.int .u64 x3.1) ∧ t 6 = .sc (.bool x3.2) ∧ H b1 = some (.cells (c34 (api_Head.mk 0 0 0)) 34) ∧ b1 < n ∧ H b2 = some (.cells (c34 (api_Head.mk (IntKind.i64.wrap (bandI .u64 (IntKind.u64.wrap (a0.tdiv 65536)) 15)) (IntKind.i64.wrap (bandI .u64 (IntKind.u64.wrap (a0.tdiv 256)) 255)) (IntKind.i64.wrap (bandI .u64 a0 255)))) 34) ∧ b2 < n ∧ b1 ≠ b2) (fun J hJ => ?_) ?_
  · simp [-splice, f0, f2, f4, f21, b_b1, b_b2]
    exact hJ _ _ _ ⟨by simp [f0], by simp [f2], by simp [f4], by simp [-splice, f0, f2, f4, f21, b_b1, b_b2], by simp [-splice, f0, f2, f4, f21, b_b1, b_b2], b_b1, l_b1, b_b2, l_b2, d_b1_b2⟩
  clear f0 f2 f4 f21 b_b1 l_b1 b_b2 l_b2 d_b1_b2
  rintro t H n ⟨f0, f2, f4, f5, f6, b_b1, l_b1, b_b2, l_b2, d_b1_b2⟩
  refine Stk.on ?_
  refine Stk.sq ?_
  refine Stk.rg ?_
  refine Stk.run 3 (fun t H n => t 0 = .sc (.int .u64 a0) ∧ t 2 = .own b1 0 ∧ t 4 = .own b2 0 ∧ t 5 = .sc (.int .u64 x3.1) ∧ t 26 = .sc (.bool (!x3.2)) ∧ H b1 = some (.cells (c34 (api_Head.mk 0 0 0)) 34) ∧ b1 < n ∧ H b2 = some (.cells (c34 (api_Head.mk (IntKind.i64.wrap (bandI .u64 (IntKind.u64.wrap (a0.tdiv 65536)) 15)) (IntKind.i64.wrap (bandI .u64 (IntKind.u64.wrap (a0.tdiv 256)) 255)) (IntKind.i64.wrap (bandI .u64 a0 255)))) 34) ∧ b2 < n ∧ b1 ≠ b2) (fun J hJ => ?_) ?_
  · simp [-splice, f0, f2, f4, f5, f6, b_b1, b_b2]
    exact hJ _ _ _ ⟨by simp [f0], by simp [f2], by simp [f4], by simp [f5], by simp [-splice, f0, f2, f4, f5, f6, b_b1, b_b2], b_b1, l_b1, b_b2, l_b2, d_b1_b2⟩
  clear f0 f2 f4 f5 f6 b_b1 l_b1 b_b2 l_b2 d_b1_b2
  rintro t H n ⟨f0, f2, f4, f5, f26, b_b1, l_b1, b_b2, l_b2, d_b1_b2⟩
  refine Stk.jo 4 (fun t H n => t 2 = .own b1 0 ∧ t 4 = .own b2 0 ∧ t 30 = .sc (.bool ((!x3.2) || (x3.1 != a0))) ∧ H b1 = some (.cells (c34 (api_Head.mk 0 0 0)) 34) ∧ b1 < n ∧ H b2 = some (.cells (c34 (api_Head.mk (IntKind.i64.wrap (bandI .u64 (IntKind.u64.wrap (a0.tdiv 65536)) 15)) (IntKind.i64.wrap (bandI .u64 (IntKind.u64.wrap (a0.tdiv 256)) 255)) (IntKind.i64.wrap (bandI .u64 a0 255)))) 34) ∧ b2 < n ∧ b1 ≠ b2) (fun J1 hJ1 => ?_) ?_
  · rcases Bool.eq_false_or_eq_true (!x3.2) with hb1 | hb1
    · rw [hb1] at f26
      refine Stk.run 4 (fun t H n => t 2 = .own b1 0 ∧ t 4 = .own b2 0 ∧ t 30 = .sc (.bool true) ∧ H b1 = some (.cells (c34 (api_Head.mk 0 0 0)) 34) ∧ b1 < n ∧ H b2 = some (.cells (c34 (api_Head.mk (IntKind.i64.wrap (bandI .u64 (IntKind.u64.wrap (a0.tdiv 65536)) 15)) (IntKind.i64.wrap (bandI .u64 (IntKind.u64.wrap (a0.tdiv 256)) 255)) (IntKind.i64.wrap (bandI .u64 a0 255)))) 34) ∧ b2 < n ∧ b1 ≠ b2) (fun J hJ => ?_) ?_
      · simp [-splice, f0, f2, f4, f5, f26, b_b1, b_b2]
        exact hJ _ _ _ ⟨by simp [f2], by simp [f4], by simp [-splice, f0, f2, f4, f5, f26, b_b1, b_b2], b_b1, l_b1, b_b2, l_b2, d_b1_b2⟩
      clear f0 f2 f4 f5 f26 b_b1 l_b1 b_b2 l_b2 d_b1_b2
      rintro t H n ⟨f2, f4, f30, b_b1, l_b1, b_b2, l_b2, d_b1_b2⟩
      refine Stk.on ?_
      exact Stk.ln 0 (by decide) (hJ1 _ _ _ ⟨f2, f4, f30.trans (congrArg (fun q => AV.sc (.bool q)) (by rw [hb1]; rfl)), b_b1, l_b1, b_b2, l_b2, d_b1_b2⟩)
    · rw [hb1] at f26
      refine Stk.run 4 (fun t H n => t 2 = .own b1 0 ∧ t 4 = .own b2 0 ∧ t 30 = .sc (.bool (x3.1 != a0)) ∧ H b1 = some (.cells (c34 (api_Head.mk 0 0 0)) 34) ∧ b1 < n ∧ H b2 = some (.cells (c34 (api_Head.mk (IntKind.i64.wrap (bandI .u64 (IntKind.u64.wrap (a0.tdiv 65536)) 15)) (IntKind.i64.wrap (bandI .u64 (IntKind.u64.wrap (a0.tdiv 256)) 255)) (IntKind.i64.wrap (bandI .u64 a0 255)))) 34) ∧ b2 < n ∧ b1 ≠ b2) (fun J hJ => ?_) ?_
      · simp [-splice, f0, f2, f4, f5, f26, b_b1, b_b2]
        exact hJ _ _ _ ⟨by simp [f2], by simp [f4], by simp [-splice, f0, f2, f4, f5, f26, b_b1, b_b2], b_b1, l_b1, b_b2, l_b2, d_b1_b2⟩
      clear f0 f2 f4 f5 f26 b_b1 l_b1 b_b2 l_b2 d_b1_b2
      rintro t H n ⟨f2, f4, f30, b_b1, l_b1, b_b2, l_b2, d_b1_b2⟩
      refine Stk.on ?_
      exact Stk.ln 0 (by decide) (hJ1 _ _ _ ⟨f2, f4, f30.trans (congrArg (fun q => AV.sc (.bool q)) (by rw [hb1]; rfl)), b_b1, l_b1, b_b2, l_b2, d_b1_b2⟩)
  clear f0 f2 f4 f5 f26 b_b1 l_b1 b_b2 l_b2 d_b1_b2
  rintro t H n ⟨f2, f4, f30, b_b1, l_b1, b_b2, l_b2, d_b1_b2⟩
  refine Stk.on ?_
  refine Stk.cond ((!x3.2) || (x3.1 != a0)) (by exact f30) (fun hb4 => ?_) (fun hb4 => ?_)
  · have h := cT hb4 h
    refine Stk.sq ?_
    refine Stk.rg ?_
    refine Stk.ov (vop_build T.t34 rfl rfl (cs := c34 (api_Head.mk 0 0 0)) (cs' := c34 (api_Head.mk 0 0 0)) rfl (.nil)) (by simp [f2, f4, f30]) rfl (fun t' ht' => ?_)
    refine Stk.gen (fun t H n => t 2 = .own b1 0 ∧ t 31 = .agg (c34 (api_Head.mk 0 0 0)) ∧ H b1 = some (.cells (c34 (api_Head.mk 0 0 0)) 34) ∧ b1 < n) ⟨by simp [ht', f2], by simp [ht'], b_b1, l_b1⟩ ?_
    clear f2 f4 f30 b_b1 l_b1 b_b2 l_b2 d_b1_b2 ht' t'
    rintro t H n ⟨f2, f31, b_b1, l_b1⟩
    refine Stk.om (mop_store (z := 3) rfl f2 b_b1 f31 (len34 _) (by rw [len34]; decide) (ok34 _) (st_34_0_34 _ _)) (by simp [f2, f31]) rfl (fun t' ht' => ?_)
    refine Stk.gen (fun t H n => t 2 = .own b1 0 ∧ H b1 = some (.cells (c34 (api_Head.mk 0 0 0)) 34) ∧ b1 < n) ⟨by simp [ht', f2], upd_same _ _ _, l_b1⟩ ?_
    clear f2 f31 b_b1 l_b1 ht' t'
    rintro t H n ⟨f2, b_b1, l_b1⟩
    refine Stk.run 1 (fun t H n => t 2 = .own b1 0 ∧ t 3 = .sc (.bool false) ∧ H b1 = some (.cells (c34 (api_Head.mk 0 0 0)) 34) ∧ b1 < n) (fun J hJ => ?_) ?_
    · simp [-splice, f2, b_b1]
      exact hJ _ _ _ ⟨by simp [f2], by simp [-splice, f2, b_b1], b_b1, l_b1⟩
    clear f2 b_b1 l_b1
    rintro t H n ⟨f2, f3, b_b1, l_b1⟩
    refine Stk.on ?_
    refine Stk.rt ?_
    have hq := Option.some.inj h; subst hq
    exact (hr _ _ _ (.tup [.agg (c34 (api_Head.mk 0 0 0)), .sc (.bool false)]) ([]) (by simp [f2, f3, b_b1, ld_34_0_34]) (.inr (.inr (.tup (.cons (.free (fr34 _)) (.cons (.free (rfl)) (.nil))))))).1
  · have h := cF hb4 h
    refine Stk.sk ?_
    refine Stk.sq ?_
    refine Stk.rg ?_
    refine Stk.run 1 (fun t H n => t 2 = .own b1 0 ∧ t 32 = .agg (c34 (api_Head.mk (IntKind.i64.wrap (bandI .u64 (IntKind.u64.wrap (a0.tdiv 65536)) 15)) (IntKind.i64.wrap (bandI .u64 (IntKind.u64.wrap (a0.tdiv 256)) 255)) (IntKind.i64.wrap (bandI .u64 a0 255)))) ∧ H b1 = some (.cells (c34 (api_Head.mk 0 0 0)) 34) ∧ b1 < n) (fun J hJ => ?_) ?_
    · simp [-splice, f2, f4, f30, b_b1, b_b2, ld_34_0_34]
      exact hJ _ _ _ ⟨by simp [f2], by simp [-splice, f2, f4, f30, b_b1, b_b2, ld_34_0_34], b_b1, l_b1⟩
    clear f2 f4 f30 b_b1 l_b1 b_b2 l_b2 d_b1_b2
    rintro t H n ⟨f2, f32, b_b1, l_b1⟩
    refine Stk.om (mop_store (z := 3) rfl f2 b_b1 f32 (len34 _) (by rw [len34]; decide) (ok34 _) (st_34_0_34 _ _)) (by simp [f2, f32]) rfl (fun t' ht' => ?_)
    refine Stk.gen (fun t H n => t 2 = .own b1 0 ∧ H b1 = some (.cells (c34 (api_Head.mk (IntKind.i64.wrap (bandI .u64 (IntKind.u64.wrap (a0.tdiv 65536)) 15)) (IntKind.i64.wrap (bandI .u64 (IntKind.u64.wrap (a0.tdiv 256)) 255)) (IntKind.i64.wrap (bandI .u64 a0 255)))) 34) ∧ b1 < n) ⟨by simp [ht', f2], upd_same _ _ _, l_b1⟩ ?_
    clear f2 f32 b_b1 l_b1 ht' t'
    rintro t H n ⟨f2, b_b1, l_b1⟩
    refine Stk.run 1 (fun t H n => t 2 = .own b1 0 ∧ t 3 = .sc (.bool true) ∧ H b1 = some (.cells (c34 (api_Head.mk (IntKind.i64.wrap (bandI .u64 (IntKind.u64.wrap (a0.tdiv 65536)) 15)) (IntKind.i64.wrap (bandI .u64 (IntKind.u64.wrap (a0.tdiv 256)) 255)) (IntKind.i64.wrap (bandI .u64 a0 255)))) 34) ∧ b1 < n) (fun J hJ => ?_) ?_
    · simp [-splice, f2, b_b1]
      exact hJ _ _ _ ⟨by simp [f2], by simp [-splice, f2, b_b1], b_b1, l_b1⟩
    clear f2 b_b1 l_b1
    rintro t H n ⟨f2, f3, b_b1, l_b1⟩
    refine Stk.on ?_
    refine Stk.rt ?_
    have hq := Option.some.inj h; subst hq
    exact (hr _ _ _ (.tup [.agg (c34 (api_Head.mk (IntKind.i64.wrap (bandI .u64 (IntKind.u64.wrap (a0.tdiv 65536)) 15)) (IntKind.i64.wrap (bandI .u64 (IntKind.u64.wrap (a0.tdiv 256)) 255)) (IntKind.i64.wrap (bandI .u64 a0 255)))), .sc (.bool true)]) ([]) (by simp [f2, f3, b_b1, ld_34_0_34]) (.inr (.inr (.tup (.cons (.free (fr34 _)) (.cons (.free (rfl)) (.nil))))))).1
theorem ok_R16_Read (F : Nat) (a0 : Int) (r : (api_Head × Bool)) (h : R16_Read F a0 = some r) : RunF Try.prog T.T 58 [.sc (.int .u64 a0)] (.tup [.agg (c34 r.1), .sc (.bool r.2)]) := by
  rw [R16_Read] at h
  refine RunF.z Try.func58 rfl rfl rfl rfl rfl (fun C hr => ?_)
  refine Stk.gen (fun t H n => t 0 = .sc (.int .u64 a0)) (by simp) ?_
  rintro t H n f0
  refine Stk.sq ?_
  refine Stk.rg ?_
  refine Stk.om (mop_alloc T.t34 (cs := c34 (api_Head.mk 0 0 0)) rfl) (by simp [f0]) rfl (fun t' ht' => ?_)
  refine Stk.gen (fun t H n => ∃ b1, t 0 = .sc (.int .u64 a0) ∧ t 2 = .own b1 0 ∧ H b1 = some (.cells (c34 (api_Head.mk 0 0 0)) 34) ∧ b1 < n) ⟨n, by simp [ht', f0], by simp [ht'], upd_same _ _ _, Nat.lt_succ_self _⟩ ?_
  clear f0 ht' t'
  rintro t H n ⟨b1, f0, f2, b_b1, l_b1⟩
  refine Stk.run 1 (fun t H n => t 0 = .sc (.int .u64 a0) ∧ t 2 = .own b1 0 ∧ H b1 = some (.cells (c34 (api_Head.mk 0 0 0)) 34) ∧ b1 < n) (fun J hJ => ?_) ?_
  · simp [-splice, f0, f2, b_b1]
    exact hJ _ _ _ ⟨by simp [f0], by simp [f2], b_b1, l_b1⟩
  clear f0 f2 b_b1 l_b1
  rintro t H n ⟨f0, f2, b_b1, l_b1⟩
  refine Stk.on ?_
  refine Stk.sq ?_
  refine Stk.sq ?_
  refine Stk.rg ?_
  refine Stk.run 2 (fun t H n => t 0 = .sc (.int .u64 a0) ∧ t 2 = .own b1 0 ∧ t 6 = .sc (.bool (decide (1048576 ≤ a0))) ∧ H b1 = some (.cells (c34 (api_Head.mk 0 0 0)) 34) ∧ b1 < n) (fun J hJ => ?_) ?_
  · simp [-splice, f0, f2, b_b1]
    exact hJ _ _ _ ⟨by simp [f0], by simp [f2], by simp [-splice, f0, f2, b_b1], b_b1, l_b1⟩
  clear f0 f2 b_b1 l_b1
  rintro t H n ⟨f0, f2, f6, b_b1, l_b1⟩
  refine Stk.on ?_
  refine Stk.cond (decide (1048576 ≤ a0)) (by exact f6) (fun hb2 => ?_) (fun hb2 => ?_)
  · have h := cT hb2 h
    refine Stk.sq ?_
    refine Stk.rg ?_
    refine Stk.ov (vop_build T.t34 rfl rfl (cs := c34 (api_Head.mk 0 0 0)) (cs' := c34 (api_Head.mk 0 0 0)) rfl (.nil)) (by simp [f0, f2, f6]) rfl (fun t' ht' => ?_)
    refine Stk.gen (fun t H n => t 2 = .own b1 0 ∧ t 7 = .agg (c34 (api_Head.mk 0 0 0)) ∧ H b1 = some (.cells (c34 (api_Head.mk 0 0 0)) 34) ∧ b1 < n) ⟨by simp [ht', f2], by simp [ht'], b_b1, l_b1⟩ ?_
    clear f0 f2 f6 b_b1 l_b1 ht' t'
    rintro t H n ⟨f2, f7, b_b1, l_b1⟩
    refine Stk.om (mop_store (z := 3) rfl f2 b_b1 f7 (len34 _) (by rw [len34]; decide) (ok34 _) (st_34_0_34 _ _)) (by simp [f2, f7]) rfl (fun t' ht' => ?_)
    refine Stk.gen (fun t H n => t 2 = .own b1 0 ∧ H b1 = some (.cells (c34 (api_Head.mk 0 0 0)) 34) ∧ b1 < n) ⟨by simp [ht', f2], upd_same _ _ _, l_b1⟩ ?_
    clear f2 f7 b_b1 l_b1 ht' t'
    rintro t H n ⟨f2, b_b1, l_b1⟩
    refine Stk.run 1 (fun t H n => t 2 = .own b1 0 ∧ t 3 = .sc (.bool false) ∧ H b1 = some (.cells (c34 (api_Head.mk 0 0 0)) 34) ∧ b1 < n) (fun J hJ => ?_) ?_
    · simp [-splice, f2, b_b1]
      exact hJ _ _ _ ⟨by simp [f2], by simp [-splice, f2, b_b1], b_b1, l_b1⟩
    clear f2 b_b1 l_b1
    rintro t H n ⟨f2, f3, b_b1, l_b1⟩
    refine Stk.on ?_
    refine Stk.rt ?_
    have hq := Option.some.inj h; subst hq
    exact (hr _ _ _ (.tup [.agg (c34 (api_Head.mk 0 0 0)), .sc (.bool false)]) ([]) (by simp [f2, f3, b_b1, ld_34_0_34]) (.inr (.inr (.tup (.cons (.free (fr34 _)) (.cons (.free (rfl)) (.nil))))))).1
  · have h := cF hb2 h
    refine Stk.sk ?_
    refine Stk.sq ?_
    refine Stk.rg ?_
    refine Stk.run 10 (fun t H n => t 2 = .own b1 0 ∧ t 10 = .sc (.int .i64 (IntKind.i64.wrap (IntKind.u64.wrap (a0.tdiv 65536)))) ∧ t 14 = .sc (.int .i64 (IntKind.i64.wrap ((IntKind.u64.wrap (a0.tdiv 256)).tmod 256))) ∧ t 17 = .sc (.int .i64 (IntKind.i64.wrap (a0.tmod 256))) ∧ H b1 = some (.cells (c34 (api_Head.mk 0 0 0)) 34) ∧ b1 < n) (fun J hJ => ?_) ?_
    · simp [-splice, f0, f2, f6, b_b1]
      exact hJ _ _ _ ⟨by simp [f2], by simp [-splice, f0, f2, f6, b_b1], by simp [-splice, f0, f2, f6, b_b1], by simp [-splice, f0, f2, f6, b_b1], b_b1, l_b1⟩
    clear f0 f2 f6 b_b1 l_b1
    rintro t H n ⟨f2, f10, f14, f17, b_b1, l_b1⟩
    refine Stk.ov (vop_build T.t34 rfl rfl (cs := c34 (api_Head.mk 0 0 0)) (cs' := c34 (api_Head.mk (IntKind.i64.wrap (IntKind.u64.wrap (a0.tdiv 65536))) (IntKind.i64.wrap ((IntKind.u64.wrap (a0.tdiv 256)).tmod 256)) (IntKind.i64.wrap (a0.tmod 256)))) rfl (.cons f10 rfl rfl rfl rfl (rfl) (by rw [len34]; decide) (st_34_0_3 _ _) (.cons f14 rfl rfl rfl rfl (rfl) (by rw [len34]; decide) (st_34_1_3 _ _) (.cons f17 rfl rfl rfl rfl (rfl) (by rw [len34]; decide) (st_34_2_3 _ _) (.nil))))) (by simp [f2, f10, f14, f17]) rfl (fun t' ht' => ?_)
    refine Stk.gen (fun t H n => t 2 = .own b1 0 ∧ t 18 = .agg (c34 (api_Head.mk (IntKind.i64.wrap (IntKind.u64.wrap (a0.tdiv 65536))) (IntKind.i64.wrap ((IntKind.u64.wrap (a0.tdiv 256)).tmod 256)) (IntKind.i64.wrap (a0.tmod 256)))) ∧ H b1 = some (.cells (c34 (api_Head.mk 0 0 0)) 34) ∧ b1 < n) ⟨by simp [ht', f2], by simp [ht'], b_b1, l_b1⟩ ?_
    clear f2 f10 f14 f17 b_b1 l_b1 ht' t'
    rintro t H n ⟨f2, f18, b_b1, l_b1⟩
    refine Stk.om (mop_alloc T.t34 (cs := c34 (api_Head.mk 0 0 0)) rfl) (by simp [f2, f18]) rfl (fun t' ht' => ?_)
    refine Stk.gen (fun t H n => ∃ b3, t 2 = .own b1 0 ∧ t 4 = .own b3 0 ∧ t 18 = .agg (c34 (api_Head.mk (IntKind.i64.wrap (IntKind.u64.wrap (a0.tdiv 65536))) (IntKind.i64.wrap ((IntKind.u64.wrap (a0.tdiv 256)).tmod 256)) (IntKind.i64.wrap (a0.tmod 256)))) ∧ H b1 = some (.cells (c34 (api_Head.mk 0 0 0)) 34) ∧ b1 < n ∧ H b3 = some (.cells (c34 (api_Head.mk 0 0 0)) 34) ∧ b3 < n ∧ b1 ≠ b3) ⟨n, by simp [ht', f2], by simp [ht'], by simp [ht', f18], (upd_ne _ _ (Nat.ne_of_lt l_b1)).trans b_b1, Nat.lt_succ_of_lt l_b1, upd_same _ _ _, Nat.lt_succ_self _, Nat.ne_of_lt l_b1⟩ ?_
    clear f2 f18 b_b1 l_b1 ht' t'
    rintro t H n ⟨b3, f2, f4, f18, b_b1, l_b1, b_b3, l_b3, d_b1_b3⟩
    refine Stk.om (mop_store (z := 3) rfl f4 b_b3 f18 (len34 _) (by rw [len34]; decide) (ok34 _) (st_34_0_34 _ _)) (by simp [f2, f4, f18]) rfl (fun t' ht' => ?_)
    refine Stk.gen (fun t H n => t 2 = .own b1 0 ∧ t 4 = .own b3 0 ∧ H b1 = some (.cells (c34 (api_Head.mk 0 0 0)) 34) ∧ b1 < n ∧ H b3 = some (.cells (c34 (api_Head.mk (IntKind.i64.wrap (IntKind.u64.wrap (a0.tdiv 65536))) (IntKind.i64.wrap ((IntKind.u64.wrap (a0.tdiv 256)).tmod 256)) (IntKind.i64.wrap (a0.tmod 256)))) 34) ∧ b3 < n ∧ b1 ≠ b3) ⟨by simp [ht', f2], by simp [ht', f4], (upd_ne _ _ d_b1_b3).trans b_b1, l_b1, upd_same _ _ _, l_b3, d_b1_b3⟩ ?_
    clear f2 f4 f18 b_b1 l_b1 b_b3 l_b3 d_b1_b3 ht' t'
    rintro t H n ⟨f2, f4, b_b1, l_b1, b_b3, l_b3, d_b1_b3⟩
    refine Stk.on ?_
    refine Stk.sq ?_
    refine Stk.sq ?_
    refine Stk.rg ?_
    refine Stk.run 1 (fun t H n => t 2 = .own b1 0 ∧ t 4 = .own b3 0 ∧ t 19 = .agg (c34 (api_Head.mk (IntKind.i64.wrap (IntKind.u64.wrap (a0.tdiv 65536))) (IntKind.i64.wrap ((IntKind.u64.wrap (a0.tdiv 256)).tmod 256)) (IntKind.i64.wrap (a0.tmod 256)))) ∧ H b1 = some (.cells (c34 (api_Head.mk 0 0 0)) 34) ∧ b1 < n ∧ H b3 = some (.cells (c34 (api_Head.mk (IntKind.i64.wrap (IntKind.u64.wrap (a0.tdiv 65536))) (IntKind.i64.wrap ((IntKind.u64.wrap (a0.tdiv 256)).tmod 256)) (IntKind.i64.wrap (a0.tmod 256)))) 34) ∧ b3 < n ∧ b1 ≠ b3) (fun J hJ => ?_) ?_
    · simp [-splice, f2, f4, b_b1, b_b3, ld_34_0_34]
      exact hJ _ _ _ ⟨by simp [f2], by simp [f4], by simp [-splice, f2, f4, b_b1, b_b3, ld_34_0_34], b_b1, l_b1, b_b3, l_b3, d_b1_b3⟩
    clear f2 f4 b_b1 l_b1 b_b3 l_b3 d_b1_b3
    rintro t H n ⟨f2, f4, f19, b_b1, l_b1, b_b3, l_b3, d_b1_b3⟩
    obtain ⟨x4, hx4, h⟩ := bnd h
    refine Stk.cv (g := 92) (args := [.agg (c34 (api_Head.mk (IntKind.i64.wrap (IntKind.u64.wrap (a0.tdiv 65536))) (IntKind.i64.wrap ((IntKind.u64.wrap (a0.tdiv 256)).tmod 256)) (IntKind.i64.wrap (a0.tmod 256))))]) (args' := [.agg (c34 (api_Head.mk (IntKind.i64.wrap (IntKind.u64.wrap (a0.tdiv 65536))) (IntKind.i64.wrap ((IntKind.u64.wrap (a0.tdiv 256)).tmod 256)) (IntKind.i64.wrap (a0.tmod 256))))]) (v := .sc (.bool x4)) [] (ok_R16_can F _ _ hx4) (by simp [f2, f4, f19]) rfl rfl (by simp [f2, f4, f19]) (.cons (.free (fr34 _)) (.nil)) (.inl ⟨rfl, rfl⟩) (fun t' ht' => ?_)
    refine Stk.gen (fun t H n => t 2 = .own b1 0 ∧ t 4 = .own b3 0 ∧ t 20 = .sc (.bool x4) ∧ H b1 = some (.cells (c34 (api_Head.mk 0 0 0)) 34) ∧ b1 < n ∧ H b3 = some (.cells (c34 (api_Head.mk (IntKind.i64.wrap (IntKind.u64.wrap (a0.tdiv 65536))) (IntKind.i64.wrap ((IntKind.u64.wrap (a0.tdiv 256)).tmod 256)) (IntKind.i64.wrap (a0.tmod 256)))) 34) ∧ b3 < n ∧ b1 ≠ b3) ⟨by simp [ht', f2], by simp [ht', f4], by simp [ht'], b_b1, l_b1, b_b3, l_b3, d_b1_b3⟩ ?_
    clear f2 f4 f19 b_b1 l_b1 b_b3 l_b3 d_b1_b3 ht' t'
    rintro t H n ⟨f2, f4, f20, b_b1, l_b1, b_b3, l_b3, d_b1_b3⟩
    refine Stk.run 1 (fun t H n => t 2 = .own b1 0 ∧ t 4 = .own b3 0 ∧ t 21 = .sc (.bool (!x4)) ∧ H b1 = some (.cells (c34 (api_Head.mk 0 0 0)) 34) ∧ b1 < n ∧ H b3 = some (.cells (c34 (api_Head.mk (IntKind.i64.wrap (IntKind.u64.wrap (a0.tdiv 65536))) (IntKind.i64.wrap ((IntKind.u64.wrap (a0.tdiv 256)).tmod 256)) (IntKind.i64.wrap (a0.tmod 256)))) 34) ∧ b3 < n ∧ b1 ≠ b3) (fun J hJ => ?_) ?_
    · simp [-splice, f2, f4, f20, b_b1, b_b3]
      exact hJ _ _ _ ⟨by simp [f2], by simp [f4], by simp [-splice, f2, f4, f20, b_b1, b_b3], b_b1, l_b1, b_b3, l_b3, d_b1_b3⟩
    clear f2 f4 f20 b_b1 l_b1 b_b3 l_b3 d_b1_b3
    rintro t H n ⟨f2, f4, f21, b_b1, l_b1, b_b3, l_b3, d_b1_b3⟩
    refine Stk.on ?_
    refine Stk.cond (!x4) (by exact f21) (fun hb5 => ?_) (fun hb5 => ?_)
    · have h := cT hb5 h
      refine Stk.sq ?_
      refine Stk.rg ?_
      refine Stk.ov (vop_build T.t34 rfl rfl (cs := c34 (api_Head.mk 0 0 0)) (cs' := c34 (api_Head.mk 0 0 0)) rfl (.nil)) (by simp [f2, f4, f21]) rfl (fun t' ht' => ?_)
      refine Stk.gen (fun t H n => t 2 = .own b1 0 ∧ t 22 = .agg (c34 (api_Head.mk 0 0 0)) ∧ H b1 = some (.cells (c34 (api_Head.mk 0 0 0)) 34) ∧ b1 < n) ⟨by simp [ht', f2], by simp [ht'], b_b1, l_b1⟩ ?_
      clear f2 f4 f21 b_b1 l_b1 b_b3 l_b3 d_b1_b3 ht' t'
      rintro t H n ⟨f2, f22, b_b1, l_b1⟩
      refine Stk.om (mop_store (z := 3) rfl f2 b_b1 f22 (len34 _) (by rw [len34]; decide) (ok34 _) (st_34_0_34 _ _)) (by simp [f2, f22]) rfl (fun t' ht' => ?_)
      refine Stk.gen (fun t H n => t 2 = .own b1 0 ∧ H b1 = some (.cells (c34 (api_Head.mk 0 0 0)) 34) ∧ b1 < n) ⟨by simp [ht', f2], upd_same _ _ _, l_b1⟩ ?_
      clear f2 f22 b_b1 l_b1 ht' t'
      rintro t H n ⟨f2, b_b1, l_b1⟩
      refine Stk.run 1 (fun t H n => t 2 = .own b1 0 ∧ t 3 = .sc (.bool false) ∧ H b1 = some (.cells (c34 (api_Head.mk 0 0 0)) 34) ∧ b1 < n) (fun J hJ => ?_) ?_
      · simp [-splice, f2, b_b1]
        exact hJ _ _ _ ⟨by simp [f2], by simp [-splice, f2, b_b1], b_b1, l_b1⟩
      clear f2 b_b1 l_b1
      rintro t H n ⟨f2, f3, b_b1, l_b1⟩
      refine Stk.on ?_
      refine Stk.rt ?_
      have hq := Option.some.inj h; subst hq
      exact (hr _ _ _ (.tup [.agg (c34 (api_Head.mk 0 0 0)), .sc (.bool false)]) ([]) (by simp [f2, f3, b_b1, ld_34_0_34]) (.inr (.inr (.tup (.cons (.free (fr34 _)) (.cons (.free (rfl)) (.nil))))))).1
    · have h := cF hb5 h
      refine Stk.sk ?_
      refine Stk.sq ?_
      refine Stk.rg ?_
      refine Stk.run 1 (fun t H n => t 2 = .own b1 0 ∧ t 23 = .agg (c34 (api_Head.mk (IntKind.i64.wrap (IntKind.u64.wrap (a0.tdiv 65536))) (IntKind.i64.wrap ((IntKind.u64.wrap (a0.tdiv 256)).tmod 256)) (IntKind.i64.wrap (a0.tmod 256)))) ∧ H b1 = some (.cells (c34 (api_Head.mk 0 0 0)) 34) ∧ b1 < n) (fun J hJ => ?_) ?_
      · simp [-splice, f2, f4, f21, b_b1, b_b3, ld_34_0_34]
        exact hJ _ _ _ ⟨by simp [f2], by simp [-splice, f2, f4, f21, b_b1, b_b3, ld_34_0_34], b_b1, l_b1⟩
      clear f2 f4 f21 b_b1 l_b1 b_b3 l_b3 d_b1_b3
      rintro t H n ⟨f2, f23, b_b1, l_b1⟩
      refine Stk.om (mop_store (z := 3) rfl f2 b_b1 f23 (len34 _) (by rw [len34]; decide) (ok34 _) (st_34_0_34 _ _)) (by simp [f2, f23]) rfl (fun t' ht' => ?_)
      refine Stk.gen (fun t H n => t 2 = .own b1 0 ∧ H b1 = some (.cells (c34 (api_Head.mk (IntKind.i64.wrap (IntKind.u64.wrap (a0.tdiv 65536))) (IntKind.i64.wrap ((IntKind.u64.wrap (a0.tdiv 256)).tmod 256)) (IntKind.i64.wrap (a0.tmod 256)))) 34) ∧ b1 < n) ⟨by simp [ht', f2], upd_same _ _ _, l_b1⟩ ?_
      clear f2 f23 b_b1 l_b1 ht' t'
      rintro t H n ⟨f2, b_b1, l_b1⟩
      refine Stk.run 1 (fun t H n => t 2 = .own b1 0 ∧ t 3 = .sc (.bool true) ∧ H b1 = some (.cells (c34 (api_Head.mk (IntKind.i64.wrap (IntKind.u64.wrap (a0.tdiv 65536))) (IntKind.i64.wrap ((IntKind.u64.wrap (a0.tdiv 256)).tmod 256)) (IntKind.i64.wrap (a0.tmod 256)))) 34) ∧ b1 < n) (fun J hJ => ?_) ?_
      · simp [-splice, f2, b_b1]
        exact hJ _ _ _ ⟨by simp [f2], by simp [-splice, f2, b_b1], b_b1, l_b1⟩
      clear f2 b_b1 l_b1
      rintro t H n ⟨f2, f3, b_b1, l_b1⟩
      refine Stk.on ?_
      refine Stk.rt ?_
      have hq := Option.some.inj h; subst hq
      exact (hr _ _ _ (.tup [.agg (c34 (api_Head.mk (IntKind.i64.wrap (IntKind.u64.wrap (a0.tdiv 65536))) (IntKind.i64.wrap ((IntKind.u64.wrap (a0.tdiv 256)).tmod 256)) (IntKind.i64.wrap (a0.tmod 256)))), .sc (.bool true)]) ([]) (by simp [f2, f3, b_b1, ld_34_0_34]) (.inr (.inr (.tup (.cons (.free (fr34 _)) (.cons (.free (rfl)) (.nil))))))).1
theorem ok_heap_Pack (F : Nat) (a0 : List Int) (r : List Int) (h : heap_Pack F a0 = some r) : RunF Try.prog T.T 59 [.ssl (encs c5 a0) a0.length false] (.ssl (encs c40 r) r.length false) := by
  cases h
  exact Go.Proofs.Ytfflojbgikfbmaa.packL_ok a0

theorem ok_R16_Pack (F : Nat) (a0 : (List Int)) (r : (List Int)) (h : R16_Pack F a0 = some r) : RunF Try.prog T.T 60 [.ssl (encs c5 a0) a0.length false] (.ssl (encs c40 r) r.length false) := by
  rw [R16_Pack] at h
  refine RunF.z Try.func60 rfl rfl rfl rfl rfl (fun C hr => ?_)
  refine Stk.gen (fun t H n => t 0 = .ssl (encs c5 a0) a0.length false) (by simp) ?_
  rintro t H n f0
  refine Stk.sq ?_
  refine Stk.rg ?_
  refine Stk.run 1 (fun t H n => t 0 = .ssl (encs c5 a0) a0.length false) (fun J hJ => ?_) ?_
  · simp [-splice, f0]
    exact hJ _ _ _ (by simp [f0])
  clear f0
  rintro t H n f0
  refine Stk.on ?_
  refine Stk.sq ?_
  refine Stk.sq ?_
  refine Stk.rg ?_
  refine Stk.run 3 (fun t H n => t 0 = .ssl (encs c5 a0) a0.length false ∧ t 7 = .sc (.bool (decide (64 < (a0.length : Int))))) (fun J hJ => ?_) ?_
  · simp [-splice, f0]
    exact hJ _ _ _ ⟨by simp [f0], by simp [-splice, f0]⟩
  clear f0
  rintro t H n ⟨f0, f7⟩
  refine Stk.on ?_
  refine Stk.cond (decide (64 < (a0.length : Int))) (by exact f7) (fun hb1 => ?_) (fun hb1 => ?_)
  · have h := cT hb1 h
    refine Stk.sq ?_
    refine Stk.rg ?_
    refine Stk.run 1 (fun t H n => t 2 = .sc (.slice none 0 0)) (fun J hJ => ?_) ?_
    · simp [-splice, f0, f7]
      exact hJ _ _ _ (by simp [-splice, f0, f7])
    clear f0 f7
    rintro t H n f2
    refine Stk.wk trivial 2 (.ssl (encs c40 ([] : (List Int))) ([] : (List Int)).length false) (by rw [f2]; exact .inr (.inr .nilS)) (fun t' ht' => ?_)
    refine Stk.gen (fun t H n => t 2 = .ssl (encs c40 ([] : (List Int))) ([] : (List Int)).length false) (by simp [ht', f2]) ?_
    clear f2 ht' t'
    rintro t H n f2
    refine Stk.on ?_
    refine Stk.rt ?_
    have hq := Option.some.inj h; subst hq
    exact (hr _ _ _ (.ssl (encs c40 ([] : (List Int))) ([] : (List Int)).length false) ([]) (by simp [f2]) (.inr (.inr (.free (freeL_encs fr40 _))))).1
  · have h := cF hb1 h
    refine Stk.sk ?_
    refine Stk.sq ?_
    refine Stk.rg ?_
    refine Stk.run 4 (fun t H n => t 0 = .ssl (encs c5 a0) a0.length false ∧ t 11 = .sc (.int .i64 (IntKind.i64.wrap ((IntKind.i64.wrap ((a0.length : Int) + 7)).tdiv 8)))) (fun J hJ => ?_) ?_
    · simp [-splice, f0, f7]
      exact hJ _ _ _ ⟨by simp [f0], by simp [-splice, f0, f7]⟩
    clear f0 f7
    rintro t H n ⟨f0, f11⟩
    obtain ⟨x2, hx2, h⟩ := bnd h
    obtain ⟨m1x2, m2x2, m3x2, m4x2⟩ := makM_ok hx2
    refine Stk.om (mop_make (c := c40) (z := 1) T.t39 rfl T.t40 rfl (by decide) rfl 0 f11 rfl m1x2 m2x2 m3x2) (by simp [f0, f11]) rfl (fun t' ht' => ?_)
    refine Stk.gen (fun t H n => ∃ b3, t 0 = .ssl (encs c5 a0) a0.length false ∧ t 12 = .osl b3 0 x2.length (some x2.length) ∧ H b3 = some (.cells (encs c40 x2) 40) ∧ b3 < n) ⟨n, by simp [ht', f0], by rw [← m4x2, List.length_replicate]; simp [ht'], by rw [← m4x2]; exact upd_same _ _ _, Nat.lt_succ_self _⟩ ?_
    clear f0 f11 ht' t'
    rintro t H n ⟨b3, f0, f12, b_b3, l_b3⟩
    refine Stk.run 1 (fun t H n => t 0 = .ssl (encs c5 a0) a0.length false ∧ t 3 = .osl b3 0 x2.length (some x2.length) ∧ H b3 = some (.cells (encs c40 x2) 40) ∧ b3 < n) (fun J hJ => ?_) ?_
    · simp [-splice, f0, f12, b_b3]
      exact hJ _ _ _ ⟨by simp [f0], by simp [-splice, f0, f12, b_b3], b_b3, l_b3⟩
    clear f0 f12 b_b3 l_b3
    rintro t H n ⟨f0, f3, b_b3, l_b3⟩
    refine Stk.on ?_
    refine Stk.sq ?_
    refine Stk.sq ?_
    refine Stk.rg ?_
    refine Stk.run 1 (fun t H n => t 0 = .ssl (encs c5 a0) a0.length false ∧ t 3 = .osl b3 0 x2.length (some x2.length) ∧ t 4 = .sc (.int .i64 0) ∧ H b3 = some (.cells (encs c40 x2) 40) ∧ b3 < n) (fun J hJ => ?_) ?_
    · simp [-splice, f0, f3, b_b3]
      exact hJ _ _ _ ⟨by simp [f0], by simp [f3], by simp [-splice, f0, f3, b_b3], b_b3, l_b3⟩
    clear f0 f3 b_b3 l_b3
    rintro t H n ⟨f0, f3, f4, b_b3, l_b3⟩
    refine Stk.on ?_
    refine Stk.bk ?_
    refine Stk.lo (fun μ t H n => ∃ v4 : Int, ∃ v5 : List Int, R16_Pack_L0 F a0 μ v4 v5 = some r ∧ t 0 = .ssl (encs c5 a0) a0.length false ∧ t 3 = .osl b3 0 v5.length (some v5.length) ∧ t 4 = .sc (.int .i64 v4) ∧ H b3 = some (.cells (encs c40 v5) 40) ∧ b3 < n) F ⟨0, x2, h, f0, f3, f4, b_b3, l_b3⟩ ?_
    clear h f0 f3 f4 b_b3 l_b3
    rintro J1 hJ1 μ t H n ⟨v4, v5, h, f0, f3, f4, b_b3, l_b3⟩
    cases μ with
    | zero => exact absurd h (by simp [R16_Pack_L0])
    | succ μ =>
    rw [R16_Pack_L0] at h
    refine Stk.sq ?_
    refine Stk.sq ?_
    refine Stk.rg ?_
    refine Stk.run 4 (fun t H n => t 0 = .ssl (encs c5 a0) a0.length false ∧ t 3 = .osl b3 0 v5.length (some v5.length) ∧ t 4 = .sc (.int .i64 v4) ∧ t 16 = .sc (.bool (decide (v4 < (a0.length : Int)))) ∧ H b3 = some (.cells (encs c40 v5) 40) ∧ b3 < n) (fun J hJ => ?_) ?_
    · simp [-splice, f0, f3, f4, b_b3]
      exact hJ _ _ _ ⟨by simp [f0], by simp [f3], by simp [f4], by simp [-splice, f0, f3, f4, b_b3], b_b3, l_b3⟩
    clear f0 f3 f4 b_b3 l_b3
    rintro t H n ⟨f0, f3, f4, f16, b_b3, l_b3⟩
    refine Stk.on ?_
    refine Stk.cond (decide (v4 < (a0.length : Int))) (by exact f16) (fun hb8 => ?_) (fun hb8 => ?_)
    · have h := cT hb8 h
      refine Stk.sk ?_
      refine Stk.sq ?_
      refine Stk.bk ?_
      obtain ⟨n0, hn0⟩ : ∃ m, m = n := ⟨n, rfl⟩
      have ln0 : n0 ≤ n := Nat.le_of_eq hn0
      refine Stk.rgD [.rd [], .rd [], .rd [], .rd [], .rd [], .rd [], .rd [], .rd [b3], .rd [], .rd [], .rd [], .rd [], .rd [], .rd [], .rd [], .rd [], .rd [], .rd [], .rd [], .rd [], .mem [b3] n0] none (by kernel_rfl) (by rfl) rfl (by simp [below, hn0, l_b3]) rfl ?_
      obtain ⟨x9, hx9, h⟩ := bnd h
      obtain ⟨i0x9, i1x9, i2x9, _⟩ := idx_ok hx9
      have ex9_0_40 : partOf T.T 40 (encs c40 v5) ((IntKind.i64.wrap (v4.tdiv 8)).toNat) = some (.sc (.int .u64 x9)) := by
          have e0 := part_elem0 (e := c40) (z := 1) (T := T.T) (ty := 40) T.t40 (by decide) (by decide) hx9 0 (by decide)
          (try simp only [Nat.mul_one, Nat.add_zero] at e0)
          exact e0.trans rfl
      obtain ⟨x10, hx10, h⟩ := bnd h
      obtain ⟨i0x10, i1x10, i2x10, _⟩ := idx_ok hx10
      have ex10_0_5 : partOf T.T 5 (encs c5 a0) (v4.toNat) = some (.sc (.int .u8 x10)) := by
          have e0 := part_elem0 (e := c5) (z := 1) (T := T.T) (ty := 5) T.t5 (by decide) (by decide) hx10 0 (by decide)
          (try simp only [Nat.mul_one, Nat.add_zero] at e0)
          exact e0.trans rfl
      obtain ⟨x11, hx11, h⟩ := bnd h
      obtain ⟨nx11, ex11⟩ := shlM_ok hx11
      refine Stk.runD 20 (fun t H n => t 0 = .ssl (encs c5 a0) a0.length false ∧ t 3 = .osl b3 0 v5.length (some v5.length) ∧ t 4 = .sc (.int .i64 v4) ∧ t 37 = .sc (.int .u64 (IntKind.u64.wrap (x9 + x11))) ∧ t 38 = .own b3 ((IntKind.i64.wrap (v4.tdiv 8)).toNat) ∧ H b3 = some (.cells (encs c40 v5) 40) ∧ b3 < n ∧ n0 ≤ n) (fun J hJ => ?_) ?_
      · simp [-splice, f0, f3, f4, f16, b_b3, i0x9, i1x9, ex9_0_40, i0x10, i1x10, pd5, ex10_0_5, nx11, ex11]
        exact hJ _ _ _ ⟨by simp [f0], by simp [f3], by simp [f4], by simp [-splice, f0, f3, f4, f16, b_b3, i0x9, i1x9, ex9_0_40, i0x10, i1x10, pd5, ex10_0_5, nx11, ex11], by simp [-splice, f0, f3, f4, f16, b_b3, i0x9, i1x9, ex9_0_40, i0x10, i1x10, pd5, ex10_0_5, nx11, ex11], b_b3, l_b3, ln0⟩
      clear f0 f3 f4 f16 b_b3 l_b3 ln0
      rintro t H n ⟨f0, f3, f4, f37, f38, b_b3, l_b3, ln0⟩
      have sp : splice (encs c40 v5) ((IntKind.i64.wrap (v4.tdiv 8)).toNat) ([.sc (.int .u64 (IntKind.u64.wrap (x9 + x11)))]) = encs c40 (v5.set (IntKind.i64.wrap (v4.tdiv 8)).toNat (IntKind.u64.wrap (x9 + x11))) := by
        have e0 := splice_elem0 (e := c40) (z := 1) hx9 (IntKind.u64.wrap (x9 + x11))
        simpa using e0
      refine Stk.omD (S := [b3]) (b := n0) rfl (fun j hj hm => upd_ne _ _ (by simpa using hm)) rfl (mop_store (z := 1) rfl f38 b_b3 f37 rfl (by rw [length_encs (e := c40)]; omega) rfl sp) (by simp [f0, f3, f4, f37, f38]) rfl (fun t' ht' => ?_)
      refine Stk.gen (fun t H n => t 0 = .ssl (encs c5 a0) a0.length false ∧ t 3 = .osl b3 0 (v5.set (IntKind.i64.wrap (v4.tdiv 8)).toNat (IntKind.u64.wrap (x9 + x11))).length (some (v5.set (IntKind.i64.wrap (v4.tdiv 8)).toNat (IntKind.u64.wrap (x9 + x11))).length) ∧ t 4 = .sc (.int .i64 v4) ∧ H b3 = some (.cells (encs c40 (v5.set (IntKind.i64.wrap (v4.tdiv 8)).toNat (IntKind.u64.wrap (x9 + x11)))) 40) ∧ b3 < n ∧ n0 ≤ n) ⟨by simp [ht', f0], by simp [-splice, ht', f0, f3, f4, f37, f38], by simp [ht', f4], upd_same _ _ _, l_b3, ln0⟩ ?_
      clear f0 f3 f4 f37 f38 b_b3 l_b3 ln0 sp ht' t'
      rintro t H n ⟨f0, f3, f4, b_b3, l_b3, ln0⟩
      refine Stk.onD ?_
      refine Stk.bn ?_
      refine Stk.rg ?_
      refine Stk.run 3 (fun t H n => t 0 = .ssl (encs c5 a0) a0.length false ∧ t 3 = .osl b3 0 (v5.set (IntKind.i64.wrap (v4.tdiv 8)).toNat (IntKind.u64.wrap (x9 + x11))).length (some (v5.set (IntKind.i64.wrap (v4.tdiv 8)).toNat (IntKind.u64.wrap (x9 + x11))).length) ∧ t 4 = .sc (.int .i64 (IntKind.i64.wrap (v4 + 1))) ∧ H b3 = some (.cells (encs c40 (v5.set (IntKind.i64.wrap (v4.tdiv 8)).toNat (IntKind.u64.wrap (x9 + x11)))) 40) ∧ b3 < n) (fun J hJ => ?_) ?_
      · simp [-splice, f0, f3, f4, b_b3]
        exact hJ _ _ _ ⟨by simp [f0], by simp [f3], by simp [-splice, f0, f3, f4, b_b3], b_b3, l_b3⟩
      clear f0 f3 f4 b_b3 l_b3 ln0
      rintro t H n ⟨f0, f3, f4, b_b3, l_b3⟩
      refine Stk.on ?_
      exact Stk.ln μ (Nat.lt_succ_self _) (hJ1 _ _ _ _ ⟨(IntKind.i64.wrap (v4 + 1)), (v5.set (IntKind.i64.wrap (v4.tdiv 8)).toNat (IntKind.u64.wrap (x9 + x11))), h, f0, f3, f4, b_b3, l_b3⟩)
    · have h := cF hb8 h
      refine Stk.ex rfl ?_
      refine Stk.sq ?_
      refine Stk.rg ?_
      refine Stk.run 2 (fun t H n => t 2 = .osl b3 0 v5.length (some v5.length) ∧ H b3 = some (.cells (encs c40 v5) 40) ∧ b3 < n) (fun J hJ => ?_) ?_
      · simp [-splice, f0, f3, f4, f16, b_b3]
        exact hJ _ _ _ ⟨by simp [-splice, f0, f3, f4, f16, b_b3], b_b3, l_b3⟩
      clear f0 f3 f4 f16 b_b3 l_b3
      rintro t H n ⟨f2, b_b3, l_b3⟩
      refine Stk.on ?_
      refine Stk.rt ?_
      have hq := Option.some.inj h; subst hq
      exact (hr _ _ _ (.osl b3 0 v5.length (some v5.length)) ([b3]) (by simp [f2, b_b3]) (.inr (.inr (view_row fr40 b_b3 (by simp) _)))).1
theorem ok_heap_body (F : Nat) (a0 : api_Head) (r : Int) (h : heap_body F a0 = some r) : RunF Try.prog T.T 93 [.agg (c34 a0)] (.sc (.int .i64 r)) := by
  rw [heap_body] at h
  refine RunF.z Try.func93 rfl rfl rfl rfl rfl (fun C hr => ?_)
  refine Stk.gen (fun t H n => t 0 = .agg (c34 a0)) (by simp) ?_
  rintro t H n f0
  refine Stk.sq ?_
  refine Stk.rg ?_
  refine Stk.om (mop_box T.t34 (cs := c34 a0) (by show partOk (t 0) = true; rw [f0]; rfl) (by show cellsOf (t 0) = _; rw [f0]; rfl)) (by simp [f0]) rfl (fun t' ht' => ?_)
  refine Stk.gen (fun t H n => ∃ b1, t 1 = .own b1 0 ∧ H b1 = some (.cells (c34 a0) 34) ∧ b1 < n) ⟨n, by simp [ht'], upd_same _ _ _, Nat.lt_succ_self _⟩ ?_
  clear f0 ht' t'
  rintro t H n ⟨b1, f1, b_b1, l_b1⟩
  refine Stk.run 1 (fun t H n => t 1 = .own b1 0 ∧ H b1 = some (.cells (c34 a0) 34) ∧ b1 < n) (fun J hJ => ?_) ?_
  · simp [-splice, f1, b_b1]
    exact hJ _ _ _ ⟨by simp [f1], b_b1, l_b1⟩
  clear f1 b_b1 l_b1
  rintro t H n ⟨f1, b_b1, l_b1⟩
  refine Stk.on ?_
  refine Stk.sq ?_
  refine Stk.sq ?_
  refine Stk.rg ?_
  refine Stk.run 3 (fun t H n => t 1 = .own b1 0 ∧ t 5 = .sc (.bool (a0.Kind == 1)) ∧ H b1 = some (.cells (c34 a0) 34) ∧ b1 < n) (fun J hJ => ?_) ?_
  · simp [-splice, f1, b_b1, ld_34_0_3]
    exact hJ _ _ _ ⟨by simp [f1], by simp [-splice, f1, b_b1, ld_34_0_3], b_b1, l_b1⟩
  clear f1 b_b1 l_b1
  rintro t H n ⟨f1, f5, b_b1, l_b1⟩
  refine Stk.on ?_
  refine Stk.cond (a0.Kind == 1) (by exact f5) (fun hb2 => ?_) (fun hb2 => ?_)
  · have h := cT hb2 h
    refine Stk.sq ?_
    refine Stk.rg ?_
    refine Stk.run 5 (fun t H n => t 2 = .sc (.int .i64 (shrI .i64 (IntKind.i64.wrap (a0.Count + 7)) 3))) (fun J hJ => ?_) ?_
    · simp [-splice, f1, f5, b_b1, ld_34_2_3]
      exact hJ _ _ _ (by simp [-splice, f1, f5, b_b1, ld_34_2_3])
    clear f1 f5 b_b1 l_b1
    rintro t H n f2
    refine Stk.on ?_
    refine Stk.rt ?_
    have hq := Option.some.inj h; subst hq
    exact (hr _ _ _ (.sc (.int .i64 (shrI .i64 (IntKind.i64.wrap (a0.Count + 7)) 3))) ([]) (by simp [f2]) (.inr (.inr (.free (rfl))))).1
  · have h := cF hb2 h
    refine Stk.sk ?_
    refine Stk.sq ?_
    refine Stk.rg ?_
    refine Stk.run 3 (fun t H n => t 2 = .sc (.int .i64 a0.Count)) (fun J hJ => ?_) ?_
    · simp [-splice, f1, f5, b_b1, ld_34_2_3]
      exact hJ _ _ _ (by simp [-splice, f1, f5, b_b1, ld_34_2_3])
    clear f1 f5 b_b1 l_b1
    rintro t H n f2
    refine Stk.on ?_
    refine Stk.rt ?_
    have hq := Option.some.inj h; subst hq
    exact (hr _ _ _ (.sc (.int .i64 a0.Count)) ([]) (by simp [f2]) (.inr (.inr (.free (rfl))))).1
theorem ok_heap_Size (F : Nat) (a0 : api_Head) (r : Int) (h : heap_Size F a0 = some r) : RunF Try.prog T.T 49 [.agg (c34 a0)] (.sc (.int .i64 r)) := by
  rw [heap_Size] at h
  refine RunF.z Try.func49 rfl rfl rfl rfl rfl (fun C hr => ?_)
  refine Stk.gen (fun t H n => t 0 = .agg (c34 a0)) (by simp) ?_
  rintro t H n f0
  refine Stk.sq ?_
  refine Stk.rg ?_
  refine Stk.om (mop_box T.t34 (cs := c34 a0) (by show partOk (t 0) = true; rw [f0]; rfl) (by show cellsOf (t 0) = _; rw [f0]; rfl)) (by simp [f0]) rfl (fun t' ht' => ?_)
  refine Stk.gen (fun t H n => ∃ b1, t 1 = .own b1 0 ∧ H b1 = some (.cells (c34 a0) 34) ∧ b1 < n) ⟨n, by simp [ht'], upd_same _ _ _, Nat.lt_succ_self _⟩ ?_
  clear f0 ht' t'
  rintro t H n ⟨b1, f1, b_b1, l_b1⟩
  refine Stk.run 1 (fun t H n => t 1 = .own b1 0 ∧ H b1 = some (.cells (c34 a0) 34) ∧ b1 < n) (fun J hJ => ?_) ?_
  · simp [-splice, f1, b_b1]
    exact hJ _ _ _ ⟨by simp [f1], b_b1, l_b1⟩
  clear f1 b_b1 l_b1
  rintro t H n ⟨f1, b_b1, l_b1⟩
  refine Stk.on ?_
  refine Stk.sq ?_
  refine Stk.sq ?_
  refine Stk.rg ?_
  refine Stk.run 1 (fun t H n => t 1 = .own b1 0 ∧ t 3 = .agg (c34 a0) ∧ H b1 = some (.cells (c34 a0) 34) ∧ b1 < n) (fun J hJ => ?_) ?_
  · simp [-splice, f1, b_b1, ld_34_0_34]
    exact hJ _ _ _ ⟨by simp [f1], by simp [-splice, f1, b_b1, ld_34_0_34], b_b1, l_b1⟩
  clear f1 b_b1 l_b1
  rintro t H n ⟨f1, f3, b_b1, l_b1⟩
  obtain ⟨x2, hx2, h⟩ := bnd h
  refine Stk.cv (g := 112) (args := [.agg (c34 a0)]) (args' := [.agg (c34 a0)]) (v := .sc (.bool x2)) [] (ok_heap_can F _ _ hx2) (by simp [f1, f3]) rfl rfl (by simp [f1, f3]) (.cons (.free (fr34 _)) (.nil)) (.inl ⟨rfl, rfl⟩) (fun t' ht' => ?_)
  refine Stk.gen (fun t H n => t 1 = .own b1 0 ∧ t 4 = .sc (.bool x2) ∧ H b1 = some (.cells (c34 a0) 34) ∧ b1 < n) ⟨by simp [ht', f1], by simp [ht'], b_b1, l_b1⟩ ?_
  clear f1 f3 b_b1 l_b1 ht' t'
  rintro t H n ⟨f1, f4, b_b1, l_b1⟩
  refine Stk.run 1 (fun t H n => t 1 = .own b1 0 ∧ t 5 = .sc (.bool (!x2)) ∧ H b1 = some (.cells (c34 a0) 34) ∧ b1 < n) (fun J hJ => ?_) ?_
  · simp [-splice, f1, f4, b_b1]
    exact hJ _ _ _ ⟨by simp [f1], by simp [-splice, f1, f4, b_b1], b_b1, l_b1⟩
  clear f1 f4 b_b1 l_b1
  rintro t H n ⟨f1, f5, b_b1, l_b1⟩
  refine Stk.on ?_
  refine Stk.cond (!x2) (by exact f5) (fun hb3 => ?_) (fun hb3 => ?_)
  · have h := cT hb3 h
    refine Stk.sq ?_
    refine Stk.rg ?_
    refine Stk.run 1 (fun t H n => t 2 = .sc (.int .i64 0)) (fun J hJ => ?_) ?_
    · simp [-splice, f1, f5, b_b1]
      exact hJ _ _ _ (by simp [-splice, f1, f5, b_b1])
    clear f1 f5 b_b1 l_b1
    rintro t H n f2
    refine Stk.on ?_
    refine Stk.rt ?_
    have hq := Option.some.inj h; subst hq
    exact (hr _ _ _ (.sc (.int .i64 0)) ([]) (by simp [f2]) (.inr (.inr (.free (rfl))))).1
  · have h := cF hb3 h
    refine Stk.sk ?_
    refine Stk.sq ?_
    refine Stk.rg ?_
    refine Stk.run 1 (fun t H n => t 6 = .agg (c34 a0)) (fun J hJ => ?_) ?_
    · simp [-splice, f1, f5, b_b1, ld_34_0_34]
      exact hJ _ _ _ (by simp [-splice, f1, f5, b_b1, ld_34_0_34])
    clear f1 f5 b_b1 l_b1
    rintro t H n f6
    obtain ⟨x4, hx4, h⟩ := bnd h
    refine Stk.cv (g := 93) (args := [.agg (c34 a0)]) (args' := [.agg (c34 a0)]) (v := .sc (.int .i64 x4)) [] (ok_heap_body F _ _ hx4) (by simp [f6]) rfl rfl (by simp [f6]) (.cons (.free (fr34 _)) (.nil)) (.inl ⟨rfl, rfl⟩) (fun t' ht' => ?_)
    refine Stk.gen (fun t H n => t 7 = .sc (.int .i64 x4)) (by simp [ht']) ?_
    clear f6 ht' t'
    rintro t H n f7
    refine Stk.run 2 (fun t H n => t 2 = .sc (.int .i64 (IntKind.i64.wrap (2 + x4)))) (fun J hJ => ?_) ?_
    · simp [-splice, f7]
      exact hJ _ _ _ (by simp [-splice, f7])
    clear f7
    rintro t H n f2
    refine Stk.on ?_
    refine Stk.rt ?_
    have hq := Option.some.inj h; subst hq
    exact (hr _ _ _ (.sc (.int .i64 (IntKind.i64.wrap (2 + x4)))) ([]) (by simp [f2]) (.inr (.inr (.free (rfl))))).1
theorem ok_R16_Size (F : Nat) (a0 : api_Head) (r : Int) (h : R16_Size F a0 = some r) : RunF Try.prog T.T 36 [.agg (c34 a0)] (.sc (.int .i64 r)) := by
  rw [R16_Size] at h
  refine RunF.z Try.func36 rfl rfl rfl rfl rfl (fun C hr => ?_)
  refine Stk.gen (fun t H n => t 0 = .agg (c34 a0)) (by simp) ?_
  rintro t H n f0
  refine Stk.sq ?_
  refine Stk.rg ?_
  refine Stk.om (mop_box T.t34 (cs := c34 a0) (by show partOk (t 0) = true; rw [f0]; rfl) (by show cellsOf (t 0) = _; rw [f0]; rfl)) (by simp [f0]) rfl (fun t' ht' => ?_)
  refine Stk.gen (fun t H n => ∃ b1, t 1 = .own b1 0 ∧ H b1 = some (.cells (c34 a0) 34) ∧ b1 < n) ⟨n, by simp [ht'], upd_same _ _ _, Nat.lt_succ_self _⟩ ?_
  clear f0 ht' t'
  rintro t H n ⟨b1, f1, b_b1, l_b1⟩
  refine Stk.run 1 (fun t H n => t 1 = .own b1 0 ∧ H b1 = some (.cells (c34 a0) 34) ∧ b1 < n) (fun J hJ => ?_) ?_
  · simp [-splice, f1, b_b1]
    exact hJ _ _ _ ⟨by simp [f1], b_b1, l_b1⟩
  clear f1 b_b1 l_b1
  rintro t H n ⟨f1, b_b1, l_b1⟩
  refine Stk.on ?_
  refine Stk.sq ?_
  refine Stk.sq ?_
  refine Stk.rg ?_
  refine Stk.run 1 (fun t H n => t 1 = .own b1 0 ∧ t 3 = .agg (c34 a0) ∧ H b1 = some (.cells (c34 a0) 34) ∧ b1 < n) (fun J hJ => ?_) ?_
  · simp [-splice, f1, b_b1, ld_34_0_34]
    exact hJ _ _ _ ⟨by simp [f1], by simp [-splice, f1, b_b1, ld_34_0_34], b_b1, l_b1⟩
  clear f1 b_b1 l_b1
  rintro t H n ⟨f1, f3, b_b1, l_b1⟩
  obtain ⟨x2, hx2, h⟩ := bnd h
  refine Stk.cv (g := 92) (args := [.agg (c34 a0)]) (args' := [.agg (c34 a0)]) (v := .sc (.bool x2)) [] (ok_R16_can F _ _ hx2) (by simp [f1, f3]) rfl rfl (by simp [f1, f3]) (.cons (.free (fr34 _)) (.nil)) (.inl ⟨rfl, rfl⟩) (fun t' ht' => ?_)
  refine Stk.gen (fun t H n => t 1 = .own b1 0 ∧ t 4 = .sc (.bool x2) ∧ H b1 = some (.cells (c34 a0) 34) ∧ b1 < n) ⟨by simp [ht', f1], by simp [ht'], b_b1, l_b1⟩ ?_
  clear f1 f3 b_b1 l_b1 ht' t'
  rintro t H n ⟨f1, f4, b_b1, l_b1⟩
  refine Stk.run 1 (fun t H n => t 1 = .own b1 0 ∧ t 5 = .sc (.bool (!x2)) ∧ H b1 = some (.cells (c34 a0) 34) ∧ b1 < n) (fun J hJ => ?_) ?_
  · simp [-splice, f1, f4, b_b1]
    exact hJ _ _ _ ⟨by simp [f1], by simp [-splice, f1, f4, b_b1], b_b1, l_b1⟩
  clear f1 f4 b_b1 l_b1
  rintro t H n ⟨f1, f5, b_b1, l_b1⟩
  refine Stk.on ?_
  refine Stk.cond (!x2) (by exact f5) (fun hb3 => ?_) (fun hb3 => ?_)
  · have h := cT hb3 h
    refine Stk.sq ?_
    refine Stk.rg ?_
    refine Stk.run 1 (fun t H n => t 2 = .sc (.int .i64 0)) (fun J hJ => ?_) ?_
    · simp [-splice, f1, f5, b_b1]
      exact hJ _ _ _ (by simp [-splice, f1, f5, b_b1])
    clear f1 f5 b_b1 l_b1
    rintro t H n f2
    refine Stk.on ?_
    refine Stk.rt ?_
    have hq := Option.some.inj h; subst hq
    exact (hr _ _ _ (.sc (.int .i64 0)) ([]) (by simp [f2]) (.inr (.inr (.free (rfl))))).1
  · have h := cF hb3 h
    refine Stk.sk ?_
    refine Stk.sq ?_
    refine Stk.sq ?_
    refine Stk.rg ?_
    refine Stk.run 3 (fun t H n => t 1 = .own b1 0 ∧ t 8 = .sc (.bool (a0.Kind == 1)) ∧ H b1 = some (.cells (c34 a0) 34) ∧ b1 < n) (fun J hJ => ?_) ?_
    · simp [-splice, f1, f5, b_b1, ld_34_0_3]
      exact hJ _ _ _ ⟨by simp [f1], by simp [-splice, f1, f5, b_b1, ld_34_0_3], b_b1, l_b1⟩
    clear f1 f5 b_b1 l_b1
    rintro t H n ⟨f1, f8, b_b1, l_b1⟩
    refine Stk.on ?_
    refine Stk.cond (a0.Kind == 1) (by exact f8) (fun hb4 => ?_) (fun hb4 => ?_)
    · have h := cT hb4 h
      refine Stk.sq ?_
      refine Stk.rg ?_
      refine Stk.run 6 (fun t H n => t 2 = .sc (.int .i64 (IntKind.i64.wrap (2 + (IntKind.i64.wrap ((IntKind.i64.wrap (a0.Count + 7)).tdiv 8)))))) (fun J hJ => ?_) ?_
      · simp [-splice, f1, f8, b_b1, ld_34_2_3]
        exact hJ _ _ _ (by simp [-splice, f1, f8, b_b1, ld_34_2_3])
      clear f1 f8 b_b1 l_b1
      rintro t H n f2
      refine Stk.on ?_
      refine Stk.rt ?_
      have hq := Option.some.inj h; subst hq
      exact (hr _ _ _ (.sc (.int .i64 (IntKind.i64.wrap (2 + (IntKind.i64.wrap ((IntKind.i64.wrap (a0.Count + 7)).tdiv 8)))))) ([]) (by simp [f2]) (.inr (.inr (.free (rfl))))).1
    · have h := cF hb4 h
      refine Stk.sk ?_
      refine Stk.sq ?_
      refine Stk.rg ?_
      refine Stk.run 4 (fun t H n => t 2 = .sc (.int .i64 (IntKind.i64.wrap (2 + a0.Count)))) (fun J hJ => ?_) ?_
      · simp [-splice, f1, f8, b_b1, ld_34_2_3]
        exact hJ _ _ _ (by simp [-splice, f1, f8, b_b1, ld_34_2_3])
      clear f1 f8 b_b1 l_b1
      rintro t H n f2
      refine Stk.on ?_
      refine Stk.rt ?_
      have hq := Option.some.inj h; subst hq
      exact (hr _ _ _ (.sc (.int .i64 (IntKind.i64.wrap (2 + a0.Count)))) ([]) (by simp [f2]) (.inr (.inr (.free (rfl))))).1
end Go.Proofs.Ytfflojbgikfbmaa.M
