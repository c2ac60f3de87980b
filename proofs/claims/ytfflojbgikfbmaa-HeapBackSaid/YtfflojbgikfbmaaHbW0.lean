/-
  The functions come to them.
-/
import Derived.Test.YtfflojbgikfbmaaHbM
namespace Go.Proofs.Ytfflojbgikfbmaa.M
open Go.Proofs.YtfflojbgikfbmaaW.Ah Go.Proofs.Ytfflojbgikfbmaa
set_option linter.unusedVariables false
set_option linter.unusedSimpArgs false
set_option maxRecDepth 8000
attribute [local simp] T.t3 T.t4 T.t34 T.t40 T.t70 T.t93 List.range List.range.loop
attribute [-simp] appendAV fillAV
theorem ok_heap_begin (F : Nat) (a0 : api_Heap) (r : Int) (h : heap_begin F a0 = some r) : RunF Try.prog T.T 95 [.agg (c93 a0)] (.sc (.int .i64 r)) := by
  rw [heap_begin] at h
  refine RunF.z Try.func95 rfl rfl rfl rfl rfl (fun C hr => ?_)
  refine Stk.gen (fun t H n => t 0 = .agg (c93 a0)) (by simp) ?_
  rintro t H n f0
  refine Stk.sq ?_
  refine Stk.rg ?_
  refine Stk.om (mop_box T.t93 (cs := c93 a0) (by show partOk (t 0) = true; rw [f0]; rfl) (by show cellsOf (t 0) = _; rw [f0]; rfl)) (by simp [f0]) rfl (fun t' ht' => ?_)
  refine Stk.gen (fun t H n => ∃ b1, t 1 = .own b1 0 ∧ H b1 = some (.cells (c93 a0) 93) ∧ b1 < n) ⟨n, by simp [ht'], upd_same _ _ _, Nat.lt_succ_self _⟩ ?_
  clear f0 ht' t'
  rintro t H n ⟨b1, f1, b_b1, l_b1⟩
  refine Stk.run 1 (fun t H n => t 1 = .own b1 0 ∧ H b1 = some (.cells (c93 a0) 93) ∧ b1 < n) (fun J hJ => ?_) ?_
  · simp [-splice, f1, b_b1]
    exact hJ _ _ _ ⟨by simp [f1], b_b1, l_b1⟩
  clear f1 b_b1 l_b1
  rintro t H n ⟨f1, b_b1, l_b1⟩
  refine Stk.on ?_
  refine Stk.sq ?_
  refine Stk.sq ?_
  refine Stk.rg ?_
  refine Stk.run 2 (fun t H n => t 1 = .own b1 0 ∧ t 4 = .sc (.bool a0.Up) ∧ H b1 = some (.cells (c93 a0) 93) ∧ b1 < n) (fun J hJ => ?_) ?_
  · simp [-splice, f1, b_b1, ld_93_2_4]
    exact hJ _ _ _ ⟨by simp [f1], by simp [-splice, f1, b_b1, ld_93_2_4], b_b1, l_b1⟩
  clear f1 b_b1 l_b1
  rintro t H n ⟨f1, f4, b_b1, l_b1⟩
  refine Stk.on ?_
  refine Stk.cond a0.Up (by exact f4) (fun hb2 => ?_) (fun hb2 => ?_)
  · have h := cT hb2 h
    refine Stk.sq ?_
    refine Stk.rg ?_
    refine Stk.run 4 (fun t H n => t 2 = .sc (.int .i64 (IntKind.i64.wrap (a0.Half + 1)))) (fun J hJ => ?_) ?_
    · simp [-splice, f1, f4, b_b1, ld_93_1_3]
      exact hJ _ _ _ (by simp [-splice, f1, f4, b_b1, ld_93_1_3])
    clear f1 f4 b_b1 l_b1
    rintro t H n f2
    refine Stk.on ?_
    refine Stk.rt ?_
    have hq := Option.some.inj h; subst hq
    exact (hr _ _ _ (.sc (.int .i64 (IntKind.i64.wrap (a0.Half + 1)))) ([]) (by simp [f2]) (.inr (.inr (.free (rfl))))).1
  · have h := cF hb2 h
    refine Stk.sk ?_
    refine Stk.sq ?_
    refine Stk.rg ?_
    refine Stk.run 1 (fun t H n => t 2 = .sc (.int .i64 1)) (fun J hJ => ?_) ?_
    · simp [-splice, f1, f4, b_b1]
      exact hJ _ _ _ (by simp [-splice, f1, f4, b_b1])
    clear f1 f4 b_b1 l_b1
    rintro t H n f2
    refine Stk.on ?_
    refine Stk.rt ?_
    have hq := Option.some.inj h; subst hq
    exact (hr _ _ _ (.sc (.int .i64 1)) ([]) (by simp [f2]) (.inr (.inr (.free (rfl))))).1
theorem ok_heap_can (F : Nat) (a0 : api_Head) (r : Bool) (h : heap_can F a0 = some r) : RunF Try.prog T.T 112 [.agg (c34 a0)] (.sc (.bool r)) := by
  rw [heap_can] at h
  refine RunF.z Try.func112 rfl rfl rfl rfl rfl (fun C hr => ?_)
  refine Stk.gen (fun t H n => t 0 = .agg (c34 a0)) (by simp) ?_
  rintro t H n f0
  refine Stk.sq ?_
  refine Stk.rg ?_
  refine Stk.om (mop_box T.t34 (cs := c34 a0) (by show partOk (t 0) = true; rw [f0]; rfl) (by show cellsOf (t 0) = _; rw [f0]; rfl)) (by simp [f0]) rfl (fun t' ht' => ?_)
  refine Stk.gen (fun t H n => ∃ b1, t 1 = .own b1 0 ∧ H b1 = some (.cells (c34 a0) 34) ∧ b1 < n) ⟨n, by simp [ht'], upd_same _ _ _, Nat.lt_succ_self _⟩ ?_
  clear f0 ht' t'
  rintro t H n ⟨b1, f1, b_b1, l_b1⟩
  refine Stk.run 1 (fun t H n => t 1 = .own b1 0 ∧ H b1 = some (.cells (c34 a0) 34) ∧ b1 < n) (fun J hJ => ?_) ?_
  · simp [-splice, f1, b_b1]
    exact hJ _ _ _ ⟨by simp [f1], b_b1, l_b1⟩
  clear f1 b_b1 l_b1
  rintro t H n ⟨f1, b_b1, l_b1⟩
  refine Stk.on ?_
  refine Stk.sq ?_
  refine Stk.sq ?_
  refine Stk.rg ?_
  refine Stk.run 2 (fun t H n => t 1 = .own b1 0 ∧ t 4 = .sc (.int .i64 a0.Kind) ∧ H b1 = some (.cells (c34 a0) 34) ∧ b1 < n) (fun J hJ => ?_) ?_
  · simp [-splice, f1, b_b1, ld_34_0_3]
    exact hJ _ _ _ ⟨by simp [f1], by simp [-splice, f1, b_b1, ld_34_0_3], b_b1, l_b1⟩
  clear f1 b_b1 l_b1
  rintro t H n ⟨f1, f4, b_b1, l_b1⟩
  refine Stk.on ?_
  refine Stk.bk ?_
  refine Stk.sq ?_
  refine Stk.rg ?_
  refine Stk.run 2 (fun t H n => t 1 = .own b1 0 ∧ t 4 = .sc (.int .i64 a0.Kind) ∧ t 5 = .sc (.bool (a0.Kind == 0)) ∧ H b1 = some (.cells (c34 a0) 34) ∧ b1 < n) (fun J hJ => ?_) ?_
  · simp [-splice, f1, f4, b_b1]
    exact hJ _ _ _ ⟨by simp [f1], by simp [f4], by simp [-splice, f1, f4, b_b1], b_b1, l_b1⟩
  clear f1 f4 b_b1 l_b1
  rintro t H n ⟨f1, f4, f5, b_b1, l_b1⟩
  refine Stk.on ?_
  refine Stk.cond (a0.Kind == 0) (by exact f5) (fun hb2 => ?_) (fun hb2 => ?_)
  · have h := cT hb2 h
    refine Stk.sq ?_
    refine Stk.rg ?_
    refine Stk.run 4 (fun t H n => t 1 = .own b1 0 ∧ t 10 = .sc (.bool (decide (0 ≤ a0.Tag))) ∧ H b1 = some (.cells (c34 a0) 34) ∧ b1 < n) (fun J hJ => ?_) ?_
    · simp [-splice, f1, f4, f5, b_b1, ld_34_1_3]
      exact hJ _ _ _ ⟨by simp [f1], by simp [-splice, f1, f4, f5, b_b1, ld_34_1_3], b_b1, l_b1⟩
    clear f1 f4 f5 b_b1 l_b1
    rintro t H n ⟨f1, f10, b_b1, l_b1⟩
    refine Stk.jo 4 (fun t H n => t 1 = .own b1 0 ∧ t 14 = .sc (.bool ((decide (0 ≤ a0.Tag)) && (decide (a0.Tag ≤ 15)))) ∧ H b1 = some (.cells (c34 a0) 34) ∧ b1 < n) (fun J1 hJ1 => ?_) ?_
    · rcases Bool.eq_false_or_eq_true (decide (0 ≤ a0.Tag)) with hb1 | hb1
      · rw [hb1] at f10
        refine Stk.run 4 (fun t H n => t 1 = .own b1 0 ∧ t 14 = .sc (.bool (decide (a0.Tag ≤ 15))) ∧ H b1 = some (.cells (c34 a0) 34) ∧ b1 < n) (fun J hJ => ?_) ?_
        · simp [-splice, f1, f10, b_b1, ld_34_1_3]
          exact hJ _ _ _ ⟨by simp [f1], by simp [-splice, f1, f10, b_b1, ld_34_1_3], b_b1, l_b1⟩
        clear f1 f10 b_b1 l_b1
        rintro t H n ⟨f1, f14, b_b1, l_b1⟩
        refine Stk.on ?_
        exact Stk.ln 0 (by decide) (hJ1 _ _ _ ⟨f1, f14.trans (congrArg (fun q => AV.sc (.bool q)) (by rw [hb1]; rfl)), b_b1, l_b1⟩)
      · rw [hb1] at f10
        refine Stk.run 4 (fun t H n => t 1 = .own b1 0 ∧ t 14 = .sc (.bool false) ∧ H b1 = some (.cells (c34 a0) 34) ∧ b1 < n) (fun J hJ => ?_) ?_
        · simp [-splice, f1, f10, b_b1]
          exact hJ _ _ _ ⟨by simp [f1], by simp [-splice, f1, f10, b_b1], b_b1, l_b1⟩
        clear f1 f10 b_b1 l_b1
        rintro t H n ⟨f1, f14, b_b1, l_b1⟩
        refine Stk.on ?_
        exact Stk.ln 0 (by decide) (hJ1 _ _ _ ⟨f1, f14.trans (congrArg (fun q => AV.sc (.bool q)) (by rw [hb1]; rfl)), b_b1, l_b1⟩)
    clear f1 f10 b_b1 l_b1
    rintro t H n ⟨f1, f14, b_b1, l_b1⟩
    refine Stk.run 1 (fun t H n => t 1 = .own b1 0 ∧ t 15 = .sc (.bool ((decide (0 ≤ a0.Tag)) && (decide (a0.Tag ≤ 15)))) ∧ H b1 = some (.cells (c34 a0) 34) ∧ b1 < n) (fun J hJ => ?_) ?_
    · simp [-splice, f1, f14, b_b1]
      exact hJ _ _ _ ⟨by simp [f1], by simp [-splice, f1, f14, b_b1], b_b1, l_b1⟩
    clear f1 f14 b_b1 l_b1
    rintro t H n ⟨f1, f15, b_b1, l_b1⟩
    refine Stk.jo 4 (fun t H n => t 1 = .own b1 0 ∧ t 19 = .sc (.bool (((decide (0 ≤ a0.Tag)) && (decide (a0.Tag ≤ 15))) && (decide (0 < a0.Count)))) ∧ H b1 = some (.cells (c34 a0) 34) ∧ b1 < n) (fun J2 hJ2 => ?_) ?_
    · rcases Bool.eq_false_or_eq_true ((decide (0 ≤ a0.Tag)) && (decide (a0.Tag ≤ 15))) with hb2 | hb2
      · rw [hb2] at f15
        refine Stk.run 4 (fun t H n => t 1 = .own b1 0 ∧ t 19 = .sc (.bool (decide (0 < a0.Count))) ∧ H b1 = some (.cells (c34 a0) 34) ∧ b1 < n) (fun J hJ => ?_) ?_
        · simp [-splice, f1, f15, b_b1, ld_34_2_3]
          exact hJ _ _ _ ⟨by simp [f1], by simp [-splice, f1, f15, b_b1, ld_34_2_3], b_b1, l_b1⟩
        clear f1 f15 b_b1 l_b1
        rintro t H n ⟨f1, f19, b_b1, l_b1⟩
        refine Stk.on ?_
        exact Stk.ln 0 (by decide) (hJ2 _ _ _ ⟨f1, f19.trans (congrArg (fun q => AV.sc (.bool q)) (by rw [hb2]; rfl)), b_b1, l_b1⟩)
      · rw [hb2] at f15
        refine Stk.run 4 (fun t H n => t 1 = .own b1 0 ∧ t 19 = .sc (.bool false) ∧ H b1 = some (.cells (c34 a0) 34) ∧ b1 < n) (fun J hJ => ?_) ?_
        · simp [-splice, f1, f15, b_b1]
          exact hJ _ _ _ ⟨by simp [f1], by simp [-splice, f1, f15, b_b1], b_b1, l_b1⟩
        clear f1 f15 b_b1 l_b1
        rintro t H n ⟨f1, f19, b_b1, l_b1⟩
        refine Stk.on ?_
        exact Stk.ln 0 (by decide) (hJ2 _ _ _ ⟨f1, f19.trans (congrArg (fun q => AV.sc (.bool q)) (by rw [hb2]; rfl)), b_b1, l_b1⟩)
    clear f1 f15 b_b1 l_b1
    rintro t H n ⟨f1, f19, b_b1, l_b1⟩
    refine Stk.run 1 (fun t H n => t 1 = .own b1 0 ∧ t 20 = .sc (.bool (((decide (0 ≤ a0.Tag)) && (decide (a0.Tag ≤ 15))) && (decide (0 < a0.Count)))) ∧ H b1 = some (.cells (c34 a0) 34) ∧ b1 < n) (fun J hJ => ?_) ?_
    · simp [-splice, f1, f19, b_b1]
      exact hJ _ _ _ ⟨by simp [f1], by simp [-splice, f1, f19, b_b1], b_b1, l_b1⟩
    clear f1 f19 b_b1 l_b1
    rintro t H n ⟨f1, f20, b_b1, l_b1⟩
    refine Stk.jo 4 (fun t H n => t 24 = .sc (.bool ((((decide (0 ≤ a0.Tag)) && (decide (a0.Tag ≤ 15))) && (decide (0 < a0.Count))) && (decide (a0.Count ≤ 6))))) (fun J3 hJ3 => ?_) ?_
    · rcases Bool.eq_false_or_eq_true (((decide (0 ≤ a0.Tag)) && (decide (a0.Tag ≤ 15))) && (decide (0 < a0.Count))) with hb3 | hb3
      · rw [hb3] at f20
        refine Stk.run 4 (fun t H n => t 24 = .sc (.bool (decide (a0.Count ≤ 6)))) (fun J hJ => ?_) ?_
        · simp [-splice, f1, f20, b_b1, ld_34_2_3]
          exact hJ _ _ _ (by simp [-splice, f1, f20, b_b1, ld_34_2_3])
        clear f1 f20 b_b1 l_b1
        rintro t H n f24
        refine Stk.on ?_
        exact Stk.ln 0 (by decide) (hJ3 _ _ _ (f24.trans (congrArg (fun q => AV.sc (.bool q)) (by rw [hb3]; rfl))))
      · rw [hb3] at f20
        refine Stk.run 4 (fun t H n => t 24 = .sc (.bool false)) (fun J hJ => ?_) ?_
        · simp [-splice, f1, f20, b_b1]
          exact hJ _ _ _ (by simp [-splice, f1, f20, b_b1])
        clear f1 f20 b_b1 l_b1
        rintro t H n f24
        refine Stk.on ?_
        exact Stk.ln 0 (by decide) (hJ3 _ _ _ (f24.trans (congrArg (fun q => AV.sc (.bool q)) (by rw [hb3]; rfl))))
    clear f1 f20 b_b1 l_b1
    rintro t H n f24
    refine Stk.run 1 (fun t H n => t 2 = .sc (.bool ((((decide (0 ≤ a0.Tag)) && (decide (a0.Tag ≤ 15))) && (decide (0 < a0.Count))) && (decide (a0.Count ≤ 6))))) (fun J hJ => ?_) ?_
    · simp [-splice, f24]
      exact hJ _ _ _ (by simp [-splice, f24])
    clear f24
    rintro t H n f2
    refine Stk.on ?_
    refine Stk.rt ?_
    have hq := Option.some.inj h; subst hq
    exact (hr _ _ _ (.sc (.bool ((((decide (0 ≤ a0.Tag)) && (decide (a0.Tag ≤ 15))) && (decide (0 < a0.Count))) && (decide (a0.Count ≤ 6))))) ([]) (by simp [f2]) (.inr (.inr (.free (rfl))))).1
  · have h := cF hb2 h
    refine Stk.sq ?_
    refine Stk.rg ?_
    refine Stk.run 2 (fun t H n => t 1 = .own b1 0 ∧ t 25 = .sc (.bool (a0.Kind == 1)) ∧ H b1 = some (.cells (c34 a0) 34) ∧ b1 < n) (fun J hJ => ?_) ?_
    · simp [-splice, f1, f4, f5, b_b1]
      exact hJ _ _ _ ⟨by simp [f1], by simp [-splice, f1, f4, f5, b_b1], b_b1, l_b1⟩
    clear f1 f4 f5 b_b1 l_b1
    rintro t H n ⟨f1, f25, b_b1, l_b1⟩
    refine Stk.on ?_
    refine Stk.cond (a0.Kind == 1) (by exact f25) (fun hb3 => ?_) (fun hb3 => ?_)
    · have h := cT hb3 h
      refine Stk.sq ?_
      refine Stk.rg ?_
      refine Stk.run 4 (fun t H n => t 1 = .own b1 0 ∧ t 30 = .sc (.bool (a0.Tag == 0)) ∧ H b1 = some (.cells (c34 a0) 34) ∧ b1 < n) (fun J hJ => ?_) ?_
      · simp [-splice, f1, f25, b_b1, ld_34_1_3]
        exact hJ _ _ _ ⟨by simp [f1], by simp [-splice, f1, f25, b_b1, ld_34_1_3], b_b1, l_b1⟩
      clear f1 f25 b_b1 l_b1
      rintro t H n ⟨f1, f30, b_b1, l_b1⟩
      refine Stk.jo 4 (fun t H n => t 1 = .own b1 0 ∧ t 34 = .sc (.bool ((a0.Tag == 0) && (decide (0 ≤ a0.Count)))) ∧ H b1 = some (.cells (c34 a0) 34) ∧ b1 < n) (fun J4 hJ4 => ?_) ?_
      · rcases Bool.eq_false_or_eq_true (a0.Tag == 0) with hb4 | hb4
        · rw [hb4] at f30
          refine Stk.run 4 (fun t H n => t 1 = .own b1 0 ∧ t 34 = .sc (.bool (decide (0 ≤ a0.Count))) ∧ H b1 = some (.cells (c34 a0) 34) ∧ b1 < n) (fun J hJ => ?_) ?_
          · simp [-splice, f1, f30, b_b1, ld_34_2_3]
            exact hJ _ _ _ ⟨by simp [f1], by simp [-splice, f1, f30, b_b1, ld_34_2_3], b_b1, l_b1⟩
          clear f1 f30 b_b1 l_b1
          rintro t H n ⟨f1, f34, b_b1, l_b1⟩
          refine Stk.on ?_
          exact Stk.ln 0 (by decide) (hJ4 _ _ _ ⟨f1, f34.trans (congrArg (fun q => AV.sc (.bool q)) (by rw [hb4]; rfl)), b_b1, l_b1⟩)
        · rw [hb4] at f30
          refine Stk.run 4 (fun t H n => t 1 = .own b1 0 ∧ t 34 = .sc (.bool false) ∧ H b1 = some (.cells (c34 a0) 34) ∧ b1 < n) (fun J hJ => ?_) ?_
          · simp [-splice, f1, f30, b_b1]
            exact hJ _ _ _ ⟨by simp [f1], by simp [-splice, f1, f30, b_b1], b_b1, l_b1⟩
          clear f1 f30 b_b1 l_b1
          rintro t H n ⟨f1, f34, b_b1, l_b1⟩
          refine Stk.on ?_
          exact Stk.ln 0 (by decide) (hJ4 _ _ _ ⟨f1, f34.trans (congrArg (fun q => AV.sc (.bool q)) (by rw [hb4]; rfl)), b_b1, l_b1⟩)
      clear f1 f30 b_b1 l_b1
      rintro t H n ⟨f1, f34, b_b1, l_b1⟩
      refine Stk.run 1 (fun t H n => t 1 = .own b1 0 ∧ t 35 = .sc (.bool ((a0.Tag == 0) && (decide (0 ≤ a0.Count)))) ∧ H b1 = some (.cells (c34 a0) 34) ∧ b1 < n) (fun J hJ => ?_) ?_
      · simp [-splice, f1, f34, b_b1]
        exact hJ _ _ _ ⟨by simp [f1], by simp [-splice, f1, f34, b_b1], b_b1, l_b1⟩
      clear f1 f34 b_b1 l_b1
      rintro t H n ⟨f1, f35, b_b1, l_b1⟩
      refine Stk.jo 4 (fun t H n => t 39 = .sc (.bool (((a0.Tag == 0) && (decide (0 ≤ a0.Count))) && (decide (a0.Count ≤ 64))))) (fun J5 hJ5 => ?_) ?_
      · rcases Bool.eq_false_or_eq_true ((a0.Tag == 0) && (decide (0 ≤ a0.Count))) with hb5 | hb5
        · rw [hb5] at f35
          refine Stk.run 4 (fun t H n => t 39 = .sc (.bool (decide (a0.Count ≤ 64)))) (fun J hJ => ?_) ?_
          · simp [-splice, f1, f35, b_b1, ld_34_2_3]
            exact hJ _ _ _ (by simp [-splice, f1, f35, b_b1, ld_34_2_3])
          clear f1 f35 b_b1 l_b1
          rintro t H n f39
          refine Stk.on ?_
          exact Stk.ln 0 (by decide) (hJ5 _ _ _ (f39.trans (congrArg (fun q => AV.sc (.bool q)) (by rw [hb5]; rfl))))
        · rw [hb5] at f35
          refine Stk.run 4 (fun t H n => t 39 = .sc (.bool false)) (fun J hJ => ?_) ?_
          · simp [-splice, f1, f35, b_b1]
            exact hJ _ _ _ (by simp [-splice, f1, f35, b_b1])
          clear f1 f35 b_b1 l_b1
          rintro t H n f39
          refine Stk.on ?_
          exact Stk.ln 0 (by decide) (hJ5 _ _ _ (f39.trans (congrArg (fun q => AV.sc (.bool q)) (by rw [hb5]; rfl))))
      clear f1 f35 b_b1 l_b1
      rintro t H n f39
      refine Stk.run 1 (fun t H n => t 2 = .sc (.bool (((a0.Tag == 0) && (decide (0 ≤ a0.Count))) && (decide (a0.Count ≤ 64))))) (fun J hJ => ?_) ?_
      · simp [-splice, f39]
        exact hJ _ _ _ (by simp [-splice, f39])
      clear f39
      rintro t H n f2
      refine Stk.on ?_
      refine Stk.rt ?_
      have hq := Option.some.inj h; subst hq
      exact (hr _ _ _ (.sc (.bool (((a0.Tag == 0) && (decide (0 ≤ a0.Count))) && (decide (a0.Count ≤ 64))))) ([]) (by simp [f2]) (.inr (.inr (.free (rfl))))).1
    · have h := cF hb3 h
      refine Stk.sk ?_
      refine Stk.bn ?_
      refine Stk.sq ?_
      refine Stk.rg ?_
      refine Stk.run 1 (fun t H n => t 2 = .sc (.bool false)) (fun J hJ => ?_) ?_
      · simp [-splice, f1, f25, b_b1]
        exact hJ _ _ _ (by simp [-splice, f1, f25, b_b1])
      clear f1 f25 b_b1 l_b1
      rintro t H n f2
      refine Stk.on ?_
      refine Stk.rt ?_
      have hq := Option.some.inj h; subst hq
      exact (hr _ _ _ (.sc (.bool false)) ([]) (by simp [f2]) (.inr (.inr (.free (rfl))))).1
theorem ok_heap_Head (F : Nat) (a0 : api_Head) (r : (Int × Bool)) (h : heap_Head F a0 = some r) : RunF Try.prog T.T 55 [.agg (c34 a0)] (.tup [.sc (.int .u64 r.1), .sc (.bool r.2)]) := by
  rw [heap_Head] at h
  refine RunF.z Try.func55 rfl rfl rfl rfl rfl (fun C hr => ?_)
  refine Stk.gen (fun t H n => t 0 = .agg (c34 a0)) (by simp) ?_
  rintro t H n f0
  refine Stk.sq ?_
  refine Stk.rg ?_
  refine Stk.om (mop_box T.t34 (cs := c34 a0) (by show partOk (t 0) = true; rw [f0]; rfl) (by show cellsOf (t 0) = _; rw [f0]; rfl)) (by simp [f0]) rfl (fun t' ht' => ?_)
  refine Stk.gen (fun t H n => ∃ b1, t 1 = .own b1 0 ∧ H b1 = some (.cells (c34 a0) 34) ∧ b1 < n) ⟨n, by simp [ht'], upd_same _ _ _, Nat.lt_succ_self _⟩ ?_
  clear f0 ht' t'
  rintro t H n ⟨b1, f1, b_b1, l_b1⟩
  refine Stk.run 2 (fun t H n => t 1 = .own b1 0 ∧ H b1 = some (.cells (c34 a0) 34) ∧ b1 < n) (fun J hJ => ?_) ?_
  · simp [-splice, f1, b_b1]
    exact hJ _ _ _ ⟨by simp [f1], b_b1, l_b1⟩
  clear f1 b_b1 l_b1
  rintro t H n ⟨f1, b_b1, l_b1⟩
  refine Stk.on ?_
  refine Stk.sq ?_
  refine Stk.sq ?_
  refine Stk.rg ?_
  refine Stk.run 1 (fun t H n => t 1 = .own b1 0 ∧ t 4 = .agg (c34 a0) ∧ H b1 = some (.cells (c34 a0) 34) ∧ b1 < n) (fun J hJ => ?_) ?_
  · simp [-splice, f1, b_b1, ld_34_0_34]
    exact hJ _ _ _ ⟨by simp [f1], by simp [-splice, f1, b_b1, ld_34_0_34], b_b1, l_b1⟩
  clear f1 b_b1 l_b1
  rintro t H n ⟨f1, f4, b_b1, l_b1⟩
  obtain ⟨x2, hx2, h⟩ := bnd h
  refine Stk.cv (g := 112) (args := [.agg (c34 a0)]) (args' := [.agg (c34 a0)]) (v := .sc (.bool x2)) [] (ok_heap_can F _ _ hx2) (by simp [f1, f4]) rfl rfl (by simp [f1, f4]) (.cons (.free (fr34 _)) (.nil)) (.inl ⟨rfl, rfl⟩) (fun t' ht' => ?_)
  refine Stk.gen (fun t H n => t 1 = .own b1 0 ∧ t 5 = .sc (.bool x2) ∧ H b1 = some (.cells (c34 a0) 34) ∧ b1 < n) ⟨by simp [ht', f1], by simp [ht'], b_b1, l_b1⟩ ?_
  clear f1 f4 b_b1 l_b1 ht' t'
  rintro t H n ⟨f1, f5, b_b1, l_b1⟩
  refine Stk.run 1 (fun t H n => t 1 = .own b1 0 ∧ t 6 = .sc (.bool (!x2)) ∧ H b1 = some (.cells (c34 a0) 34) ∧ b1 < n) (fun J hJ => ?_) ?_
  · simp [-splice, f1, f5, b_b1]
    exact hJ _ _ _ ⟨by simp [f1], by simp [-splice, f1, f5, b_b1], b_b1, l_b1⟩
  clear f1 f5 b_b1 l_b1
  rintro t H n ⟨f1, f6, b_b1, l_b1⟩
  refine Stk.on ?_
  refine Stk.cond (!x2) (by exact f6) (fun hb3 => ?_) (fun hb3 => ?_)
  · have h := cT hb3 h
    refine Stk.sq ?_
    refine Stk.rg ?_
    refine Stk.run 2 (fun t H n => t 2 = .sc (.int .u64 0) ∧ t 3 = .sc (.bool false)) (fun J hJ => ?_) ?_
    · simp [-splice, f1, f6, b_b1]
      exact hJ _ _ _ ⟨by simp [-splice, f1, f6, b_b1], by simp [-splice, f1, f6, b_b1]⟩
    clear f1 f6 b_b1 l_b1
    rintro t H n ⟨f2, f3⟩
    refine Stk.on ?_
    refine Stk.rt ?_
    have hq := Option.some.inj h; subst hq
    exact (hr _ _ _ (.tup [.sc (.int .u64 0), .sc (.bool false)]) ([]) (by simp [f2, f3]) (.inr (.inr (.tup (.cons (.free (rfl)) (.cons (.free (rfl)) (.nil))))))).1
  · have h := cF hb3 h
    refine Stk.sk ?_
    refine Stk.sq ?_
    refine Stk.rg ?_
    refine Stk.run 13 (fun t H n => t 2 = .sc (.int .u64 (IntKind.u64.wrap (borI .i64 (borI .i64 (IntKind.i64.wrap (a0.Kind * 65536)) (IntKind.i64.wrap (a0.Tag * 256))) a0.Count))) ∧ t 3 = .sc (.bool true)) (fun J hJ => ?_) ?_
    · simp [-splice, f1, f6, b_b1, ld_34_0_3, ld_34_1_3, ld_34_2_3]
      exact hJ _ _ _ ⟨by simp [-splice, f1, f6, b_b1, ld_34_0_3, ld_34_1_3, ld_34_2_3], by simp [-splice, f1, f6, b_b1, ld_34_0_3, ld_34_1_3, ld_34_2_3]⟩
    clear f1 f6 b_b1 l_b1
    rintro t H n ⟨f2, f3⟩
    refine Stk.on ?_
    refine Stk.rt ?_
    have hq := Option.some.inj h; subst hq
    exact (hr _ _ _ (.tup [.sc (.int .u64 (IntKind.u64.wrap (borI .i64 (borI .i64 (IntKind.i64.wrap (a0.Kind * 65536)) (IntKind.i64.wrap (a0.Tag * 256))) a0.Count))), .sc (.bool true)]) ([]) (by simp [f2, f3]) (.inr (.inr (.tup (.cons (.free (rfl)) (.cons (.free (rfl)) (.nil))))))).1
theorem ok_heap_Read (F : Nat) (a0 : Int) (r : (api_Head × Bool)) (h : heap_Read F a0 = some r) : RunF Try.prog T.T 57 [.sc (.int .u64 a0)] (.tup [.agg (c34 r.1), .sc (.bool r.2)]) := by
  rw [heap_Read] at h
  refine RunF.z Try.func57 rfl rfl rfl rfl rfl (fun C hr => ?_)
  refine Stk.gen (fun t H n => t 0 = .sc (.int .u64 a0)) (by simp) ?_
  rintro t H n f0
  refine Stk.sq ?_
  refine Stk.rg ?_
  refine Stk.om (mop_alloc T.t34 (cs := c34 (api_Head.mk 0 0 0)) rfl) (by simp [f0]) rfl (fun t' ht' => ?_)
  refine Stk.gen (fun t H n => ∃ b1, t 0 = .sc (.int .u64 a0) ∧ t 2 = .own b1 0 ∧ H b1 = some (.cells (c34 (api_Head.mk 0 0 0)) 34) ∧ b1 < n) ⟨n, by simp [ht', f0], by simp [ht'], upd_same _ _ _, Nat.lt_succ_self _⟩ ?_
  clear f0 ht' t'
  rintro t H n ⟨b1, f0, f2, b_b1, l_b1⟩
  refine Stk.run 1 (fun t H n => t 0 = .sc (.int .u64 a0) ∧ t 2 = .own b1 0 ∧ H b1 = some (.cells (c34 (api_Head.mk 0 0 0)) 34) ∧ b1 < n) (fun J hJ => ?_) ?_
  · simp [-splice, f0, f2, b_b1]
    exact hJ _ _ _ ⟨by simp [f0], by simp [f2], b_b1, l_b1⟩
  clear f0 f2 b_b1 l_b1
  rintro t H n ⟨f0, f2, b_b1, l_b1⟩
  refine Stk.on ?_
  refine Stk.sq ?_
  refine Stk.rg ?_
  refine Stk.run 11 (fun t H n => t 0 = .sc (.int .u64 a0) ∧ t 2 = .own b1 0 ∧ t 10 = .sc (.int .i64 (IntKind.i64.wrap (bandI .u64 (IntKind.u64.wrap (a0.tdiv 65536)) 15))) ∧ t 14 = .sc (.int .i64 (IntKind.i64.wrap (bandI .u64 (IntKind.u64.wrap (a0.tdiv 256)) 255))) ∧ t 17 = .sc (.int .i64 (IntKind.i64.wrap (bandI .u64 a0 255))) ∧ H b1 = some (.cells (c34 (api_Head.mk 0 0 0)) 34) ∧ b1 < n) (fun J hJ => ?_) ?_
  · simp [-splice, f0, f2, b_b1]
    exact hJ _ _ _ ⟨by simp [f0], by simp [f2], by simp [-splice, f0, f2, b_b1], by simp [-splice, f0, f2, b_b1], by simp [-splice, f0, f2, b_b1], b_b1, l_b1⟩
  clear f0 f2 b_b1 l_b1
  rintro t H n ⟨f0, f2, f10, f14, f17, b_b1, l_b1⟩
  refine Stk.ov (vop_build T.t34 rfl rfl (cs := c34 (api_Head.mk 0 0 0)) (cs' := c34 (api_Head.mk (IntKind.i64.wrap (bandI .u64 (IntKind.u64.wrap (a0.tdiv 65536)) 15)) (IntKind.i64.wrap (bandI .u64 (IntKind.u64.wrap (a0.tdiv 256)) 255)) (IntKind.i64.wrap (bandI .u64 a0 255)))) rfl (.cons f10 rfl rfl rfl rfl (rfl) (by rw [len34]; decide) (st_34_0_3 _ _) (.cons f14 rfl rfl rfl rfl (rfl) (by rw [len34]; decide) (st_34_1_3 _ _) (.cons f17 rfl rfl rfl rfl (rfl) (by rw [len34]; decide) (st_34_2_3 _ _) (.nil))))) (by simp [f0, f2, f10, f14, f17]) rfl (fun t' ht' => ?_)
  refine Stk.gen (fun t H n => t 0 = .sc (.int .u64 a0) ∧ t 2 = .own b1 0 ∧ t 18 = .agg (c34 (api_Head.mk (IntKind.i64.wrap (bandI .u64 (IntKind.u64.wrap (a0.tdiv 65536)) 15)) (IntKind.i64.wrap (bandI .u64 (IntKind.u64.wrap (a0.tdiv 256)) 255)) (IntKind.i64.wrap (bandI .u64 a0 255)))) ∧ H b1 = some (.cells (c34 (api_Head.mk 0 0 0)) 34) ∧ b1 < n) ⟨by simp [ht', f0], by simp [ht', f2], by simp [ht'], b_b1, l_b1⟩ ?_
  clear f0 f2 f10 f14 f17 b_b1 l_b1 ht' t'
  rintro t H n ⟨f0, f2, f18, b_b1, l_b1⟩
  refine Stk.om (mop_alloc T.t34 (cs := c34 (api_Head.mk 0 0 0)) rfl) (by simp [f0, f2, f18]) rfl (fun t' ht' => ?_)
  refine Stk.gen (fun t H n => ∃ b2, t 0 = .sc (.int .u64 a0) ∧ t 2 = .own b1 0 ∧ t 4 = .own b2 0 ∧ t 18 = .agg (c34 (api_Head.mk (IntKind.i64.wrap (bandI .u64 (IntKind.u64.wrap (a0.tdiv 65536)) 15)) (IntKind.i64.wrap (bandI .u64 (IntKind.u64.wrap (a0.tdiv 256)) 255)) (IntKind.i64.wrap (bandI .u64 a0 255)))) ∧ H b1 = some (.cells (c34 (api_Head.mk 0 0 0)) 34) ∧ b1 < n ∧ H b2 = some (.cells (c34 (api_Head.mk 0 0 0)) 34) ∧ b2 < n ∧ b1 ≠ b2) ⟨n, by simp [ht', f0], by simp [ht', f2], by simp [ht'], by simp [ht', f18], (upd_ne _ _ (Nat.ne_of_lt l_b1)).trans b_b1, Nat.lt_succ_of_lt l_b1, upd_same _ _ _, Nat.lt_succ_self _, Nat.ne_of_lt l_b1⟩ ?_
  clear f0 f2 f18 b_b1 l_b1 ht' t'
  rintro t H n ⟨b2, f0, f2, f4, f18, b_b1, l_b1, b_b2, l_b2, d_b1_b2⟩
  refine Stk.om (mop_store (z := 3) rfl f4 b_b2 f18 (len34 _) (by rw [len34]; decide) (ok34 _) (st_34_0_34 _ _)) (by simp [f0, f2, f4, f18]) rfl (fun t' ht' => ?_)
  refine Stk.gen (fun t H n => t 0 = .sc (.int .u64 a0) ∧ t 2 = .own b1 0 ∧ t 4 = .own b2 0 ∧ H b1 = some (.cells (c34 (api_Head.mk 0 0 0)) 34) ∧ b1 < n ∧ H b2 = some (.cells (c34 (api_Head.mk (IntKind.i64.wrap (bandI .u64 (IntKind.u64.wrap (a0.tdiv 65536)) 15)) (IntKind.i64.wrap (bandI .u64 (IntKind.u64.wrap (a0.tdiv 256)) 255)) (IntKind.i64.wrap (bandI .u64 a0 255)))) 34) ∧ b2 < n ∧ b1 ≠ b2) ⟨by simp [ht', f0], by simp [ht', f2], by simp [ht', f4], (upd_ne _ _ d_b1_b2).trans b_b1, l_b1, upd_same _ _ _, l_b2, d_b1_b2⟩ ?_
  clear f0 f2 f4 f18 b_b1 l_b1 b_b2 l_b2 d_b1_b2 ht' t'
  rintro t H n ⟨f0, f2, f4, b_b1, l_b1, b_b2, l_b2, d_b1_b2⟩
  refine Stk.on ?_
  refine Stk.sq ?_
  refine Stk.sq ?_
  refine Stk.rg ?_
  refine Stk.run 1 (fun t H n => t 0 = .sc (.int .u64 a0) ∧ t 2 = .own b1 0 ∧ t 4 = .own b2 0 ∧ t 20 = .agg (c34 (api_Head.mk (IntKind.i64.wrap (bandI .u64 (IntKind.u64.wrap (a0.tdiv 65536)) 15)) (IntKind.i64.wrap (bandI .u64 (IntKind.u64.wrap (a0.tdiv 256)) 255)) (IntKind.i64.wrap (bandI .u64 a0 255)))) ∧ H b1 = some (.cells (c34 (api_Head.mk 0 0 0)) 34) ∧ b1 < n ∧ H b2 = some (.cells (c34 (api_Head.mk (IntKind.i64.wrap (bandI .u64 (IntKind.u64.wrap (a0.tdiv 65536)) 15)) (IntKind.i64.wrap (bandI .u64 (IntKind.u64.wrap (a0.tdiv 256)) 255)) (IntKind.i64.wrap (bandI .u64 a0 255)))) 34) ∧ b2 < n ∧ b1 ≠ b2) (fun J hJ => ?_) ?_
  · simp [-splice, f0, f2, f4, b_b1, b_b2, ld_34_0_34]
    exact hJ _ _ _ ⟨by simp [f0], by simp [f2], by simp [f4], by simp [-splice, f0, f2, f4, b_b1, b_b2, ld_34_0_34], b_b1, l_b1, b_b2, l_b2, d_b1_b2⟩
  clear f0 f2 f4 b_b1 l_b1 b_b2 l_b2 d_b1_b2
  rintro t H n ⟨f0, f2, f4, f20, b_b1, l_b1, b_b2, l_b2, d_b1_b2⟩
  obtain ⟨x3, hx3, h⟩ := bnd h
  refine Stk.cv (g := 55) (args := [.agg (c34 (api_Head.mk (IntKind.i64.wrap (bandI .u64 (IntKind.u64.wrap (a0.tdiv 65536)) 15)) (IntKind.i64.wrap (bandI .u64 (IntKind.u64.wrap (a0.tdiv 256)) 255)) (IntKind.i64.wrap (bandI .u64 a0 255))))]) (args' := [.agg (c34 (api_Head.mk (IntKind.i64.wrap (bandI .u64 (IntKind.u64.wrap (a0.tdiv 65536)) 15)) (IntKind.i64.wrap (bandI .u64 (IntKind.u64.wrap (a0.tdiv 256)) 255)) (IntKind.i64.wrap (bandI .u64 a0 255))))]) (v := .tup [.sc (.int .u64 x3.1), .sc (.bool x3.2)]) [] (ok_heap_Head F _ _ hx3) (by simp [f0, f2, f4, f20]) rfl rfl (by simp [f0, f2, f4, f20]) (.cons (.free (fr34 _)) (.nil)) (.inl ⟨rfl, by simp [free, freeL]⟩) (fun t' ht' => ?_)
  refine Stk.gen (fun t H n => t 0 = .sc (.int .u64 a0) ∧ t 2 = .own b1 0 ∧ t 4 = .own b2 0 ∧ t 21 = .tup [.sc (.int .u64 x3.1), .sc (.bool x3.2)] ∧ H b1 = some (.cells (c34 (api_Head.mk 0 0 0)) 34) ∧ b1 < n ∧ H b2 = some (.cells (c34 (api_Head.mk (IntKind.i64.wrap (bandI .u64 (IntKind.u64.wrap (a0.tdiv 65536)) 15)) (IntKind.i64.wrap (bandI .u64 (IntKind.u64.wrap (a0.tdiv 256)) 255)) (IntKind.i64.wrap (bandI .u64 a0 255)))) 34) ∧ b2 < n ∧ b1 ≠ b2) ⟨by simp [ht', f0], by simp [ht', f2], by simp [ht', f4], by simp [ht'], b_b1, l_b1, b_b2, l_b2, d_b1_b2⟩ ?_
  clear f0 f2 f4 f20 b_b1 l_b1 b_b2 l_b2 d_b1_b2 ht' t'
  rintro t H n ⟨f0, f2, f4, f21, b_b1, l_b1, b_b2, l_b2, d_b1_b2⟩
  refine Stk.run 5 (fun t H n => t 0 = .sc (.int .u64 a0) ∧ t 2 = .own b1 0 ∧ t 4 = .own b2 0 ∧ t 5 = .sc (.int .u64 x3.1) ∧ t 6 = .sc (.bool x3.2) ∧ H b1 = some (.cells (c34 (api_Head.mk 0 0 0)) 34) ∧ b1 < n ∧ H b2 = some (.cells (c34 (api_Head.mk (IntKind.i64.wrap (bandI .u64 (IntKind.u64.wrap (a0.tdiv 65536)) 15)) (IntKind.i64.wrap (bandI .u64 (IntKind.u64.wrap (a0.tdiv 256)) 255)) (IntKind.i64.wrap (bandI .u64 a0 255)))) 34) ∧ b2 < n ∧ b1 ≠ b2) (fun J hJ => ?_) ?_
  · simp [-splice, f0, f2, f4, f21, b_b1, b_b2]
    exact hJ _ _ _ ⟨by simp [f0], by simp [f2], by simp [f4], by simp [-splice, f0, f2, f4, f21, b_b1, b_b2], by simp [-splice, f0, f2, f4, f21, b_b1, b_b2], b_b1, l_b1, b_b2, l_b2, d_b1_b2⟩
  clear f0 f2 f4 f21 b_b1 l_b1 b_b2 l_b2 d_b1_b2
  rintro t H n ⟨f0, f2, f4, f5, f6, b_b1, l_b1, b_b2, l_b2, d_b1_b2⟩
  refine Stk.on ?_
  refine Stk.sq ?_
  refine Stk.rg ?_
  refine Stk.run 3 (fun t H n => t 0 = .sc (.int .u64 a0) ∧ t 2 = .own b1 0 ∧ t 4 = .own b2 0 ∧ t 5 = .sc (.int .u64 x3.1) ∧ t 26 = .sc (.bool (!x3.2)) ∧ H b1 = some (.cells (c34 (api_Head.mk 0 0 0)) 34) ∧ b1 < n ∧ H b2 = some (.cells (c34 (api_Head.mk (IntKind.i64.wrap (bandI .u64 (IntKind.u64.wrap (a0.tdiv 65536)) 15)) (IntKind.i64.wrap (bandI .u64 (IntKind.u64.wrap (a0.tdiv 256)) 255)) (IntKind.i64.wrap (bandI .u64 a0 255)))) 34) ∧ b2 < n ∧ b1 ≠ b2) (fun J hJ => ?_) ?_
  · simp [-splice, f0, f2, f4, f5, f6, b_b1, b_b2]
    exact hJ _ _ _ ⟨by simp [f0], by simp [f2], by simp [f4], by simp [f5], by simp [-splice, f0, f2, f4, f5, f6, b_b1, b_b2], b_b1, l_b1, b_b2, l_b2, d_b1_b2⟩
  clear f0 f2 f4 f5 f6 b_b1 l_b1 b_b2 l_b2 d_b1_b2
  rintro t H n ⟨f0, f2, f4, f5, f26, b_b1, l_b1, b_b2, l_b2, d_b1_b2⟩
  refine Stk.jo 4 (fun t H n => t 2 = .own b1 0 ∧ t 4 = .own b2 0 ∧ t 30 = .sc (.bool ((!x3.2) || (x3.1 != a0))) ∧ H b1 = some (.cells (c34 (api_Head.mk 0 0 0)) 34) ∧ b1 < n ∧ H b2 = some (.cells (c34 (api_Head.mk (IntKind.i64.wrap (bandI .u64 (IntKind.u64.wrap (a0.tdiv 65536)) 15)) (IntKind.i64.wrap (bandI .u64 (IntKind.u64.wrap (a0.tdiv 256)) 255)) (IntKind.i64.wrap (bandI .u64 a0 255)))) 34) ∧ b2 < n ∧ b1 ≠ b2) (fun J1 hJ1 => ?_) ?_
  · rcases Bool.eq_false_or_eq_true (!x3.2) with hb1 | hb1
    · rw [hb1] at f26
      refine Stk.run 4 (fun t H n => t 2 = .own b1 0 ∧ t 4 = .own b2 0 ∧ t 30 = .sc (.bool true) ∧ H b1 = some (.cells (c34 (api_Head.mk 0 0 0)) 34) ∧ b1 < n ∧ H b2 = some (.cells (c34 (api_Head.mk (IntKind.i64.wrap (bandI .u64 (IntKind.u64.wrap (a0.tdiv 65536)) 15)) (IntKind.i64.wrap (bandI .u64 (IntKind.u64.wrap (a0.tdiv 256)) 255)) (IntKind.i64.wrap (bandI .u64 a0 255)))) 34) ∧ b2 < n ∧ b1 ≠ b2) (fun J hJ => ?_) ?_
      · simp [-splice, f0, f2, f4, f5, f26, b_b1, b_b2]
        exact hJ _ _ _ ⟨by simp [f2], by simp [f4], by simp [-splice, f0, f2, f4, f5, f26, b_b1, b_b2], b_b1, l_b1, b_b2, l_b2, d_b1_b2⟩
      clear f0 f2 f4 f5 f26 b_b1 l_b1 b_b2 l_b2 d_b1_b2
      rintro t H n ⟨f2, f4, f30, b_b1, l_b1, b_b2, l_b2, d_b1_b2⟩
      refine Stk.on ?_
      exact Stk.ln 0 (by decide) (hJ1 _ _ _ ⟨f2, f4, f30.trans (congrArg (fun q => AV.sc (.bool q)) (by rw [hb1]; rfl)), b_b1, l_b1, b_b2, l_b2, d_b1_b2⟩)
    · rw [hb1] at f26
      refine Stk.run 4 (fun t H n => t 2 = .own b1 0 ∧ t 4 = .own b2 0 ∧ t 30 = .sc (.bool (x3.1 != a0)) ∧ H b1 = some (.cells (c34 (api_Head.mk 0 0 0)) 34) ∧ b1 < n ∧ H b2 = some (.cells (c34 (api_Head.mk (IntKind.i64.wrap (bandI .u64 (IntKind.u64.wrap (a0.tdiv 65536)) 15)) (IntKind.i64.wrap (bandI .u64 (IntKind.u64.wrap (a0.tdiv 256)) 255)) (IntKind.i64.wrap (bandI .u64 a0 255)))) 34) ∧ b2 < n ∧ b1 ≠ b2) (fun J hJ => ?_) ?_
      · simp [-splice, f0, f2, f4, f5, f26, b_b1, b_b2]
        exact hJ _ _ _ ⟨by simp [f2], by simp [f4], by simp [-splice, f0, f2, f4, f5, f26, b_b1, b_b2], b_b1, l_b1, b_b2, l_b2, d_b1_b2⟩
      clear f0 f2 f4 f5 f26 b_b1 l_b1 b_b2 l_b2 d_b1_b2
      rintro t H n ⟨f2, f4, f30, b_b1, l_b1, b_b2, l_b2, d_b1_b2⟩
      refine Stk.on ?_
      exact Stk.ln 0 (by decide) (hJ1 _ _ _ ⟨f2, f4, f30.trans (congrArg (fun q => AV.sc (.bool q)) (by rw [hb1]; rfl)), b_b1, l_b1, b_b2, l_b2, d_b1_b2⟩)
  clear f0 f2 f4 f5 f26 b_b1 l_b1 b_b2 l_b2 d_b1_b2
  rintro t H n ⟨f2, f4, f30, b_b1, l_b1, b_b2, l_b2, d_b1_b2⟩
  refine Stk.on ?_
  refine Stk.cond ((!x3.2) || (x3.1 != a0)) (by exact f30) (fun hb4 => ?_) (fun hb4 => ?_)
  · have h := cT hb4 h
    refine Stk.sq ?_
    refine Stk.rg ?_
    refine Stk.ov (vop_build T.t34 rfl rfl (cs := c34 (api_Head.mk 0 0 0)) (cs' := c34 (api_Head.mk 0 0 0)) rfl (.nil)) (by simp [f2, f4, f30]) rfl (fun t' ht' => ?_)
    refine Stk.gen (fun t H n => t 2 = .own b1 0 ∧ t 31 = .agg (c34 (api_Head.mk 0 0 0)) ∧ H b1 = some (.cells (c34 (api_Head.mk 0 0 0)) 34) ∧ b1 < n) ⟨by simp [ht', f2], by simp [ht'], b_b1, l_b1⟩ ?_
    clear f2 f4 f30 b_b1 l_b1 b_b2 l_b2 d_b1_b2 ht' t'
    rintro t H n ⟨f2, f31, b_b1, l_b1⟩
    refine Stk.om (mop_store (z := 3) rfl f2 b_b1 f31 (len34 _) (by rw [len34]; decide) (ok34 _) (st_34_0_34 _ _)) (by simp [f2, f31]) rfl (fun t' ht' => ?_)
    refine Stk.gen (fun t H n => t 2 = .own b1 0 ∧ H b1 = some (.cells (c34 (api_Head.mk 0 0 0)) 34) ∧ b1 < n) ⟨by simp [ht', f2], upd_same _ _ _, l_b1⟩ ?_
    clear f2 f31 b_b1 l_b1 ht' t'
    rintro t H n ⟨f2, b_b1, l_b1⟩
    refine Stk.run 1 (fun t H n => t 2 = .own b1 0 ∧ t 3 = .sc (.bool false) ∧ H b1 = some (.cells (c34 (api_Head.mk 0 0 0)) 34) ∧ b1 < n) (fun J hJ => ?_) ?_
    · simp [-splice, f2, b_b1]
      exact hJ _ _ _ ⟨by simp [f2], by simp [-splice, f2, b_b1], b_b1, l_b1⟩
    clear f2 b_b1 l_b1
    rintro t H n ⟨f2, f3, b_b1, l_b1⟩
    refine Stk.on ?_
    refine Stk.rt ?_
    have hq := Option.some.inj h; subst hq
    exact (hr _ _ _ (.tup [.agg (c34 (api_Head.mk 0 0 0)), .sc (.bool false)]) ([]) (by simp [f2, f3, b_b1, ld_34_0_34]) (.inr (.inr (.tup (.cons (.free (fr34 _)) (.cons (.free (rfl)) (.nil))))))).1
  · have h := cF hb4 h
    refine Stk.sk ?_
    refine Stk.sq ?_
    refine Stk.rg ?_
    refine Stk.run 1 (fun t H n => t 2 = .own b1 0 ∧ t 32 = .agg (c34 (api_Head.mk (IntKind.i64.wrap (bandI .u64 (IntKind.u64.wrap (a0.tdiv 65536)) 15)) (IntKind.i64.wrap (bandI .u64 (IntKind.u64.wrap (a0.tdiv 256)) 255)) (IntKind.i64.wrap (bandI .u64 a0 255)))) ∧ H b1 = some (.cells (c34 (api_Head.mk 0 0 0)) 34) ∧ b1 < n) (fun J hJ => ?_) ?_
    · simp [-splice, f2, f4, f30, b_b1, b_b2, ld_34_0_34]
      exact hJ _ _ _ ⟨by simp [f2], by simp [-splice, f2, f4, f30, b_b1, b_b2, ld_34_0_34], b_b1, l_b1⟩
    clear f2 f4 f30 b_b1 l_b1 b_b2 l_b2 d_b1_b2
    rintro t H n ⟨f2, f32, b_b1, l_b1⟩
    refine Stk.om (mop_store (z := 3) rfl f2 b_b1 f32 (len34 _) (by rw [len34]; decide) (ok34 _) (st_34_0_34 _ _)) (by simp [f2, f32]) rfl (fun t' ht' => ?_)
    refine Stk.gen (fun t H n => t 2 = .own b1 0 ∧ H b1 = some (.cells (c34 (api_Head.mk (IntKind.i64.wrap (bandI .u64 (IntKind.u64.wrap (a0.tdiv 65536)) 15)) (IntKind.i64.wrap (bandI .u64 (IntKind.u64.wrap (a0.tdiv 256)) 255)) (IntKind.i64.wrap (bandI .u64 a0 255)))) 34) ∧ b1 < n) ⟨by simp [ht', f2], upd_same _ _ _, l_b1⟩ ?_
    clear f2 f32 b_b1 l_b1 ht' t'
    rintro t H n ⟨f2, b_b1, l_b1⟩
    refine Stk.run 1 (fun t H n => t 2 = .own b1 0 ∧ t 3 = .sc (.bool true) ∧ H b1 = some (.cells (c34 (api_Head.mk (IntKind.i64.wrap (bandI .u64 (IntKind.u64.wrap (a0.tdiv 65536)) 15)) (IntKind.i64.wrap (bandI .u64 (IntKind.u64.wrap (a0.tdiv 256)) 255)) (IntKind.i64.wrap (bandI .u64 a0 255)))) 34) ∧ b1 < n) (fun J hJ => ?_) ?_
    · simp [-splice, f2, b_b1]
      exact hJ _ _ _ ⟨by simp [f2], by simp [-splice, f2, b_b1], b_b1, l_b1⟩
    clear f2 b_b1 l_b1
    rintro t H n ⟨f2, f3, b_b1, l_b1⟩
    refine Stk.on ?_
    refine Stk.rt ?_
    have hq := Option.some.inj h; subst hq
    exact (hr _ _ _ (.tup [.agg (c34 (api_Head.mk (IntKind.i64.wrap (bandI .u64 (IntKind.u64.wrap (a0.tdiv 65536)) 15)) (IntKind.i64.wrap (bandI .u64 (IntKind.u64.wrap (a0.tdiv 256)) 255)) (IntKind.i64.wrap (bandI .u64 a0 255)))), .sc (.bool true)]) ([]) (by simp [f2, f3, b_b1, ld_34_0_34]) (.inr (.inr (.tup (.cons (.free (fr34 _)) (.cons (.free (rfl)) (.nil))))))).1
theorem ok_heap_body (F : Nat) (a0 : api_Head) (r : Int) (h : heap_body F a0 = some r) : RunF Try.prog T.T 93 [.agg (c34 a0)] (.sc (.int .i64 r)) := by
  rw [heap_body] at h
  refine RunF.z Try.func93 rfl rfl rfl rfl rfl (fun C hr => ?_)
  refine Stk.gen (fun t H n => t 0 = .agg (c34 a0)) (by simp) ?_
  rintro t H n f0
  refine Stk.sq ?_
  refine Stk.rg ?_
  refine Stk.om (mop_box T.t34 (cs := c34 a0) (by show partOk (t 0) = true; rw [f0]; rfl) (by show cellsOf (t 0) = _; rw [f0]; rfl)) (by simp [f0]) rfl (fun t' ht' => ?_)
  refine Stk.gen (fun t H n => ∃ b1, t 1 = .own b1 0 ∧ H b1 = some (.cells (c34 a0) 34) ∧ b1 < n) ⟨n, by simp [ht'], upd_same _ _ _, Nat.lt_succ_self _⟩ ?_
  clear f0 ht' t'
  rintro t H n ⟨b1, f1, b_b1, l_b1⟩
  refine Stk.run 1 (fun t H n => t 1 = .own b1 0 ∧ H b1 = some (.cells (c34 a0) 34) ∧ b1 < n) (fun J hJ => ?_) ?_
  · simp [-splice, f1, b_b1]
    exact hJ _ _ _ ⟨by simp [f1], b_b1, l_b1⟩
  clear f1 b_b1 l_b1
  rintro t H n ⟨f1, b_b1, l_b1⟩
  refine Stk.on ?_
  refine Stk.sq ?_
  refine Stk.sq ?_
  refine Stk.rg ?_
  refine Stk.run 3 (fun t H n => t 1 = .own b1 0 ∧ t 5 = .sc (.bool (a0.Kind == 1)) ∧ H b1 = some (.cells (c34 a0) 34) ∧ b1 < n) (fun J hJ => ?_) ?_
  · simp [-splice, f1, b_b1, ld_34_0_3]
    exact hJ _ _ _ ⟨by simp [f1], by simp [-splice, f1, b_b1, ld_34_0_3], b_b1, l_b1⟩
  clear f1 b_b1 l_b1
  rintro t H n ⟨f1, f5, b_b1, l_b1⟩
  refine Stk.on ?_
  refine Stk.cond (a0.Kind == 1) (by exact f5) (fun hb2 => ?_) (fun hb2 => ?_)
  · have h := cT hb2 h
    refine Stk.sq ?_
    refine Stk.rg ?_
    refine Stk.run 5 (fun t H n => t 2 = .sc (.int .i64 (shrI .i64 (IntKind.i64.wrap (a0.Count + 7)) 3))) (fun J hJ => ?_) ?_
    · simp [-splice, f1, f5, b_b1, ld_34_2_3]
      exact hJ _ _ _ (by simp [-splice, f1, f5, b_b1, ld_34_2_3])
    clear f1 f5 b_b1 l_b1
    rintro t H n f2
    refine Stk.on ?_
    refine Stk.rt ?_
    have hq := Option.some.inj h; subst hq
    exact (hr _ _ _ (.sc (.int .i64 (shrI .i64 (IntKind.i64.wrap (a0.Count + 7)) 3))) ([]) (by simp [f2]) (.inr (.inr (.free (rfl))))).1
  · have h := cF hb2 h
    refine Stk.sk ?_
    refine Stk.sq ?_
    refine Stk.rg ?_
    refine Stk.run 3 (fun t H n => t 2 = .sc (.int .i64 a0.Count)) (fun J hJ => ?_) ?_
    · simp [-splice, f1, f5, b_b1, ld_34_2_3]
      exact hJ _ _ _ (by simp [-splice, f1, f5, b_b1, ld_34_2_3])
    clear f1 f5 b_b1 l_b1
    rintro t H n f2
    refine Stk.on ?_
    refine Stk.rt ?_
    have hq := Option.some.inj h; subst hq
    exact (hr _ _ _ (.sc (.int .i64 a0.Count)) ([]) (by simp [f2]) (.inr (.inr (.free (rfl))))).1
theorem ok_heap_Size (F : Nat) (a0 : api_Head) (r : Int) (h : heap_Size F a0 = some r) : RunF Try.prog T.T 49 [.agg (c34 a0)] (.sc (.int .i64 r)) := by
  rw [heap_Size] at h
  refine RunF.z Try.func49 rfl rfl rfl rfl rfl (fun C hr => ?_)
  refine Stk.gen (fun t H n => t 0 = .agg (c34 a0)) (by simp) ?_
  rintro t H n f0
  refine Stk.sq ?_
  refine Stk.rg ?_
  refine Stk.om (mop_box T.t34 (cs := c34 a0) (by show partOk (t 0) = true; rw [f0]; rfl) (by show cellsOf (t 0) = _; rw [f0]; rfl)) (by simp [f0]) rfl (fun t' ht' => ?_)
  refine Stk.gen (fun t H n => ∃ b1, t 1 = .own b1 0 ∧ H b1 = some (.cells (c34 a0) 34) ∧ b1 < n) ⟨n, by simp [ht'], upd_same _ _ _, Nat.lt_succ_self _⟩ ?_
  clear f0 ht' t'
  rintro t H n ⟨b1, f1, b_b1, l_b1⟩
  refine Stk.run 1 (fun t H n => t 1 = .own b1 0 ∧ H b1 = some (.cells (c34 a0) 34) ∧ b1 < n) (fun J hJ => ?_) ?_
  · simp [-splice, f1, b_b1]
    exact hJ _ _ _ ⟨by simp [f1], b_b1, l_b1⟩
  clear f1 b_b1 l_b1
  rintro t H n ⟨f1, b_b1, l_b1⟩
  refine Stk.on ?_
  refine Stk.sq ?_
  refine Stk.sq ?_
  refine Stk.rg ?_
  refine Stk.run 1 (fun t H n => t 1 = .own b1 0 ∧ t 3 = .agg (c34 a0) ∧ H b1 = some (.cells (c34 a0) 34) ∧ b1 < n) (fun J hJ => ?_) ?_
  · simp [-splice, f1, b_b1, ld_34_0_34]
    exact hJ _ _ _ ⟨by simp [f1], by simp [-splice, f1, b_b1, ld_34_0_34], b_b1, l_b1⟩
  clear f1 b_b1 l_b1
  rintro t H n ⟨f1, f3, b_b1, l_b1⟩
  obtain ⟨x2, hx2, h⟩ := bnd h
  refine Stk.cv (g := 112) (args := [.agg (c34 a0)]) (args' := [.agg (c34 a0)]) (v := .sc (.bool x2)) [] (ok_heap_can F _ _ hx2) (by simp [f1, f3]) rfl rfl (by simp [f1, f3]) (.cons (.free (fr34 _)) (.nil)) (.inl ⟨rfl, rfl⟩) (fun t' ht' => ?_)
  refine Stk.gen (fun t H n => t 1 = .own b1 0 ∧ t 4 = .sc (.bool x2) ∧ H b1 = some (.cells (c34 a0) 34) ∧ b1 < n) ⟨by simp [ht', f1], by simp [ht'], b_b1, l_b1⟩ ?_
  clear f1 f3 b_b1 l_b1 ht' t'
  rintro t H n ⟨f1, f4, b_b1, l_b1⟩
  refine Stk.run 1 (fun t H n => t 1 = .own b1 0 ∧ t 5 = .sc (.bool (!x2)) ∧ H b1 = some (.cells (c34 a0) 34) ∧ b1 < n) (fun J hJ => ?_) ?_
  · simp [-splice, f1, f4, b_b1]
    exact hJ _ _ _ ⟨by simp [f1], by simp [-splice, f1, f4, b_b1], b_b1, l_b1⟩
  clear f1 f4 b_b1 l_b1
  rintro t H n ⟨f1, f5, b_b1, l_b1⟩
  refine Stk.on ?_
  refine Stk.cond (!x2) (by exact f5) (fun hb3 => ?_) (fun hb3 => ?_)
  · have h := cT hb3 h
    refine Stk.sq ?_
    refine Stk.rg ?_
    refine Stk.run 1 (fun t H n => t 2 = .sc (.int .i64 0)) (fun J hJ => ?_) ?_
    · simp [-splice, f1, f5, b_b1]
      exact hJ _ _ _ (by simp [-splice, f1, f5, b_b1])
    clear f1 f5 b_b1 l_b1
    rintro t H n f2
    refine Stk.on ?_
    refine Stk.rt ?_
    have hq := Option.some.inj h; subst hq
    exact (hr _ _ _ (.sc (.int .i64 0)) ([]) (by simp [f2]) (.inr (.inr (.free (rfl))))).1
  · have h := cF hb3 h
    refine Stk.sk ?_
    refine Stk.sq ?_
    refine Stk.rg ?_
    refine Stk.run 1 (fun t H n => t 6 = .agg (c34 a0)) (fun J hJ => ?_) ?_
    · simp [-splice, f1, f5, b_b1, ld_34_0_34]
      exact hJ _ _ _ (by simp [-splice, f1, f5, b_b1, ld_34_0_34])
    clear f1 f5 b_b1 l_b1
    rintro t H n f6
    obtain ⟨x4, hx4, h⟩ := bnd h
    refine Stk.cv (g := 93) (args := [.agg (c34 a0)]) (args' := [.agg (c34 a0)]) (v := .sc (.int .i64 x4)) [] (ok_heap_body F _ _ hx4) (by simp [f6]) rfl rfl (by simp [f6]) (.cons (.free (fr34 _)) (.nil)) (.inl ⟨rfl, rfl⟩) (fun t' ht' => ?_)
    refine Stk.gen (fun t H n => t 7 = .sc (.int .i64 x4)) (by simp [ht']) ?_
    clear f6 ht' t'
    rintro t H n f7
    refine Stk.run 2 (fun t H n => t 2 = .sc (.int .i64 (IntKind.i64.wrap (2 + x4)))) (fun J hJ => ?_) ?_
    · simp [-splice, f7]
      exact hJ _ _ _ (by simp [-splice, f7])
    clear f7
    rintro t H n f2
    refine Stk.on ?_
    refine Stk.rt ?_
    have hq := Option.some.inj h; subst hq
    exact (hr _ _ _ (.sc (.int .i64 (IntKind.i64.wrap (2 + x4)))) ([]) (by simp [f2]) (.inr (.inr (.free (rfl))))).1
theorem ok_word_Ptr (F : Nat) (a0 : Int) (r : Int) (h : word_Ptr F a0 = some r) : RunF Try.prog T.T 41 [.sc (.int .u32 a0)] (.sc (.int .u64 r)) := by
  rw [word_Ptr] at h
  refine RunF.z Try.func41 rfl rfl rfl rfl rfl (fun C hr => ?_)
  refine Stk.gen (fun t H n => t 0 = .sc (.int .u32 a0)) (by simp) ?_
  rintro t H n f0
  refine Stk.sq ?_
  refine Stk.rg ?_
  refine Stk.run 1 (fun t H n => t 0 = .sc (.int .u32 a0)) (fun J hJ => ?_) ?_
  · simp [-splice, f0]
    exact hJ _ _ _ (by simp [f0])
  clear f0
  rintro t H n f0
  refine Stk.on ?_
  refine Stk.sq ?_
  refine Stk.rg ?_
  refine Stk.run 4 (fun t H n => t 2 = .sc (.int .u64 (shlI .u64 (IntKind.u64.wrap a0) 1))) (fun J hJ => ?_) ?_
  · simp [-splice, f0]
    exact hJ _ _ _ (by simp [-splice, f0])
  clear f0
  rintro t H n f2
  refine Stk.on ?_
  refine Stk.rt ?_
  have hq := Option.some.inj h; subst hq
  exact (hr _ _ _ (.sc (.int .u64 (shlI .u64 (IntKind.u64.wrap a0) 1))) ([]) (by simp [f2]) (.inr (.inr (.free (rfl))))).1
end Go.Proofs.Ytfflojbgikfbmaa.M
