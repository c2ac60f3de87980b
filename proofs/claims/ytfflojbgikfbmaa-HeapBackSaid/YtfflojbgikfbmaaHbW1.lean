/-
  The functions come to them.
-/
import Derived.Test.YtfflojbgikfbmaaHbM
import Derived.Test.YtfflojbgikfbmaaHbW0
namespace Go.Proofs.Ytfflojbgikfbmaa.M
open Go.Proofs.YtfflojbgikfbmaaW.Ah Go.Proofs.Ytfflojbgikfbmaa
set_option linter.unusedVariables false
set_option linter.unusedSimpArgs false
set_option maxRecDepth 8000
attribute [local simp] T.t3 T.t4 T.t5 T.t34 T.t35 T.t39 T.t40 T.t70 T.t93 List.range List.range.loop
attribute [-simp] appendAV fillAV
theorem ok_heap_Fit (F : Nat) (a0 : api_Heap) (r : Bool) (h : heap_Fit F a0 = some r) : RunF Try.prog T.T 61 [.agg (c93 a0)] (.sc (.bool r)) := by
  rw [heap_Fit] at h
  refine RunF.z Try.func61 rfl rfl rfl rfl rfl (fun C hr => ?_)
  refine Stk.gen (fun t H n => t 0 = .agg (c93 a0)) (by simp) ?_
  rintro t H n f0
  refine Stk.sq ?_
  refine Stk.rg ?_
  refine Stk.om (mop_box T.t93 (cs := c93 a0) (by show partOk (t 0) = true; rw [f0]; rfl) (by show cellsOf (t 0) = _; rw [f0]; rfl)) (by simp [f0]) rfl (fun t' ht' => ?_)
  refine Stk.gen (fun t H n => ∃ b1, t 1 = .own b1 0 ∧ H b1 = some (.cells (c93 a0) 93) ∧ b1 < n) ⟨n, by simp [ht'], upd_same _ _ _, Nat.lt_succ_self _⟩ ?_
  clear f0 ht' t'
  rintro t H n ⟨b1, f1, b_b1, l_b1⟩
  refine Stk.run 1 (fun t H n => t 1 = .own b1 0 ∧ H b1 = some (.cells (c93 a0) 93) ∧ b1 < n) (fun J hJ => ?_) ?_
  · simp [-splice, f1, b_b1]
    exact hJ _ _ _ ⟨by simp [f1], b_b1, l_b1⟩
  clear f1 b_b1 l_b1
  rintro t H n ⟨f1, b_b1, l_b1⟩
  refine Stk.on ?_
  refine Stk.sq ?_
  refine Stk.sq ?_
  refine Stk.rg ?_
  refine Stk.run 4 (fun t H n => t 1 = .own b1 0 ∧ t 10 = .sc (.bool (decide (a0.Half < 16))) ∧ H b1 = some (.cells (c93 a0) 93) ∧ b1 < n) (fun J hJ => ?_) ?_
  · simp [-splice, f1, b_b1, ld_93_1_3]
    exact hJ _ _ _ ⟨by simp [f1], by simp [-splice, f1, b_b1, ld_93_1_3], b_b1, l_b1⟩
  clear f1 b_b1 l_b1
  rintro t H n ⟨f1, f10, b_b1, l_b1⟩
  refine Stk.jo 4 (fun t H n => t 1 = .own b1 0 ∧ t 14 = .sc (.bool ((decide (a0.Half < 16)) || (decide (16384 < a0.Half)))) ∧ H b1 = some (.cells (c93 a0) 93) ∧ b1 < n) (fun J1 hJ1 => ?_) ?_
  · rcases Bool.eq_false_or_eq_true (decide (a0.Half < 16)) with hb1 | hb1
    · rw [hb1] at f10
      refine Stk.run 4 (fun t H n => t 1 = .own b1 0 ∧ t 14 = .sc (.bool true) ∧ H b1 = some (.cells (c93 a0) 93) ∧ b1 < n) (fun J hJ => ?_) ?_
      · simp [-splice, f1, f10, b_b1]
        exact hJ _ _ _ ⟨by simp [f1], by simp [-splice, f1, f10, b_b1], b_b1, l_b1⟩
      clear f1 f10 b_b1 l_b1
      rintro t H n ⟨f1, f14, b_b1, l_b1⟩
      refine Stk.on ?_
      exact Stk.ln 0 (by decide) (hJ1 _ _ _ ⟨f1, f14.trans (congrArg (fun q => AV.sc (.bool q)) (by rw [hb1]; rfl)), b_b1, l_b1⟩)
    · rw [hb1] at f10
      refine Stk.run 4 (fun t H n => t 1 = .own b1 0 ∧ t 14 = .sc (.bool (decide (16384 < a0.Half))) ∧ H b1 = some (.cells (c93 a0) 93) ∧ b1 < n) (fun J hJ => ?_) ?_
      · simp [-splice, f1, f10, b_b1, ld_93_1_3]
        exact hJ _ _ _ ⟨by simp [f1], by simp [-splice, f1, f10, b_b1, ld_93_1_3], b_b1, l_b1⟩
      clear f1 f10 b_b1 l_b1
      rintro t H n ⟨f1, f14, b_b1, l_b1⟩
      refine Stk.on ?_
      exact Stk.ln 0 (by decide) (hJ1 _ _ _ ⟨f1, f14.trans (congrArg (fun q => AV.sc (.bool q)) (by rw [hb1]; rfl)), b_b1, l_b1⟩)
  clear f1 f10 b_b1 l_b1
  rintro t H n ⟨f1, f14, b_b1, l_b1⟩
  refine Stk.run 1 (fun t H n => t 1 = .own b1 0 ∧ t 15 = .sc (.bool ((decide (a0.Half < 16)) || (decide (16384 < a0.Half)))) ∧ H b1 = some (.cells (c93 a0) 93) ∧ b1 < n) (fun J hJ => ?_) ?_
  · simp [-splice, f1, f14, b_b1]
    exact hJ _ _ _ ⟨by simp [f1], by simp [-splice, f1, f14, b_b1], b_b1, l_b1⟩
  clear f1 f14 b_b1 l_b1
  rintro t H n ⟨f1, f15, b_b1, l_b1⟩
  refine Stk.jo 9 (fun t H n => t 1 = .own b1 0 ∧ t 24 = .sc (.bool (((decide (a0.Half < 16)) || (decide (16384 < a0.Half))) || ((a0.Words.length : Int) != (IntKind.i64.wrap ((IntKind.i64.wrap (2 * a0.Half)) + 1))))) ∧ H b1 = some (.cells (c93 a0) 93) ∧ b1 < n) (fun J2 hJ2 => ?_) ?_
  · rcases Bool.eq_false_or_eq_true ((decide (a0.Half < 16)) || (decide (16384 < a0.Half))) with hb2 | hb2
    · rw [hb2] at f15
      refine Stk.run 9 (fun t H n => t 1 = .own b1 0 ∧ t 24 = .sc (.bool true) ∧ H b1 = some (.cells (c93 a0) 93) ∧ b1 < n) (fun J hJ => ?_) ?_
      · simp [-splice, f1, f15, b_b1]
        exact hJ _ _ _ ⟨by simp [f1], by simp [-splice, f1, f15, b_b1], b_b1, l_b1⟩
      clear f1 f15 b_b1 l_b1
      rintro t H n ⟨f1, f24, b_b1, l_b1⟩
      refine Stk.on ?_
      exact Stk.ln 0 (by decide) (hJ2 _ _ _ ⟨f1, f24.trans (congrArg (fun q => AV.sc (.bool q)) (by rw [hb2]; rfl)), b_b1, l_b1⟩)
    · rw [hb2] at f15
      refine Stk.run 9 (fun t H n => t 1 = .own b1 0 ∧ t 24 = .sc (.bool ((a0.Words.length : Int) != (IntKind.i64.wrap ((IntKind.i64.wrap (2 * a0.Half)) + 1)))) ∧ H b1 = some (.cells (c93 a0) 93) ∧ b1 < n) (fun J hJ => ?_) ?_
      · simp [-splice, f1, f15, b_b1, ld_93_0_39, ld_93_1_3]
        exact hJ _ _ _ ⟨by simp [f1], by simp [-splice, f1, f15, b_b1, ld_93_0_39, ld_93_1_3], b_b1, l_b1⟩
      clear f1 f15 b_b1 l_b1
      rintro t H n ⟨f1, f24, b_b1, l_b1⟩
      refine Stk.on ?_
      exact Stk.ln 0 (by decide) (hJ2 _ _ _ ⟨f1, f24.trans (congrArg (fun q => AV.sc (.bool q)) (by rw [hb2]; rfl)), b_b1, l_b1⟩)
  clear f1 f15 b_b1 l_b1
  rintro t H n ⟨f1, f24, b_b1, l_b1⟩
  refine Stk.run 1 (fun t H n => t 1 = .own b1 0 ∧ t 25 = .sc (.bool (((decide (a0.Half < 16)) || (decide (16384 < a0.Half))) || ((a0.Words.length : Int) != (IntKind.i64.wrap ((IntKind.i64.wrap (2 * a0.Half)) + 1))))) ∧ H b1 = some (.cells (c93 a0) 93) ∧ b1 < n) (fun J hJ => ?_) ?_
  · simp [-splice, f1, f24, b_b1]
    exact hJ _ _ _ ⟨by simp [f1], by simp [-splice, f1, f24, b_b1], b_b1, l_b1⟩
  clear f1 f24 b_b1 l_b1
  rintro t H n ⟨f1, f25, b_b1, l_b1⟩
  obtain ⟨K3, hK3, h⟩ := jnd h
  refine Stk.jo 6 (fun t H n => ∃ v2 : Bool, K3 v2 = some r ∧ t 1 = .own b1 0 ∧ t 31 = .sc (.bool v2) ∧ H b1 = some (.cells (c93 a0) 93) ∧ b1 < n) (fun J3 hJ3 => ?_) ?_
  · rcases Bool.eq_false_or_eq_true (((decide (a0.Half < 16)) || (decide (16384 < a0.Half))) || ((a0.Words.length : Int) != (IntKind.i64.wrap ((IntKind.i64.wrap (2 * a0.Half)) + 1)))) with hb3 | hb3
    · rw [hb3] at f25
      replace h := cT hb3 h
      refine Stk.run 6 (fun t H n => t 1 = .own b1 0 ∧ t 31 = .sc (.bool true) ∧ H b1 = some (.cells (c93 a0) 93) ∧ b1 < n) (fun J hJ => ?_) ?_
      · simp [-splice, f1, f25, b_b1]
        exact hJ _ _ _ ⟨by simp [f1], by simp [-splice, f1, f25, b_b1], b_b1, l_b1⟩
      clear f1 f25 b_b1 l_b1
      rintro t H n ⟨f1, f31, b_b1, l_b1⟩
      refine Stk.on ?_
      exact Stk.ln 0 (by decide) (hJ3 _ _ _ ⟨true, h, f1, f31, b_b1, l_b1⟩)
    · rw [hb3] at f25
      replace h := cF hb3 h
      obtain ⟨x3, hx3, h⟩ := bnd h
      obtain ⟨i0x3, i1x3, i2x3, _⟩ := idx_ok hx3
      have i5x3 : 0 < a0.Words.length := by omega
      have i6x3 : ¬ a0.Words = [] := List.ne_nil_of_length_pos i5x3
      have ex3_0_40 : partOf T.T 40 (encs c40 a0.Words) 0 = some (.sc (.int .u64 x3)) := by
          have e0 := part_elem0 (e := c40) (z := 1) (T := T.T) (ty := 40) T.t40 (by decide) (by decide) hx3 0 (by decide)
          (try simp only [Nat.mul_one, Nat.add_zero, Int.toNat_ofNat, Nat.zero_mul, Nat.zero_add] at e0)
          exact e0.trans rfl
      refine Stk.run 6 (fun t H n => t 1 = .own b1 0 ∧ t 31 = .sc (.bool (x3 != 0)) ∧ H b1 = some (.cells (c93 a0) 93) ∧ b1 < n) (fun J hJ => ?_) ?_
      · simp [-splice, f1, f25, b_b1, ld_93_0_39, i0x3, i1x3, i5x3, i6x3, pd40, ex3_0_40]
        exact hJ _ _ _ ⟨by simp [f1], by simp [-splice, f1, f25, b_b1, ld_93_0_39, i0x3, i1x3, i5x3, i6x3, pd40, ex3_0_40], b_b1, l_b1⟩
      clear f1 f25 b_b1 l_b1
      rintro t H n ⟨f1, f31, b_b1, l_b1⟩
      refine Stk.on ?_
      exact Stk.ln 0 (by decide) (hJ3 _ _ _ ⟨(x3 != 0), h, f1, f31, b_b1, l_b1⟩)
  clear h f1 f25 b_b1 l_b1
  rintro t H n ⟨v2, h, f1, f31, b_b1, l_b1⟩
  subst hK3
  refine Stk.on ?_
  refine Stk.cond v2 (by exact f31) (fun hb4 => ?_) (fun hb4 => ?_)
  · have h := cT hb4 h
    refine Stk.sq ?_
    refine Stk.rg ?_
    refine Stk.run 1 (fun t H n => t 2 = .sc (.bool false)) (fun J hJ => ?_) ?_
    · simp [-splice, f1, f31, b_b1]
      exact hJ _ _ _ (by simp [-splice, f1, f31, b_b1])
    clear f1 f31 b_b1 l_b1
    rintro t H n f2
    refine Stk.on ?_
    refine Stk.rt ?_
    have hq := Option.some.inj h; subst hq
    exact (hr _ _ _ (.sc (.bool false)) ([]) (by simp [f2]) (.inr (.inr (.free (rfl))))).1
  · have h := cF hb4 h
    refine Stk.sk ?_
    refine Stk.sq ?_
    refine Stk.rg ?_
    refine Stk.run 1 (fun t H n => t 1 = .own b1 0 ∧ t 32 = .agg (c93 a0) ∧ H b1 = some (.cells (c93 a0) 93) ∧ b1 < n) (fun J hJ => ?_) ?_
    · simp [-splice, f1, f31, b_b1, ld_93_0_93]
      exact hJ _ _ _ ⟨by simp [f1], by simp [-splice, f1, f31, b_b1, ld_93_0_93], b_b1, l_b1⟩
    clear f1 f31 b_b1 l_b1
    rintro t H n ⟨f1, f32, b_b1, l_b1⟩
    obtain ⟨x5, hx5, h⟩ := bnd h
    refine Stk.cv (g := 95) (args := [.agg (c93 a0)]) (args' := [.agg (c93 a0)]) (v := .sc (.int .i64 x5)) [] (ok_heap_begin F _ _ hx5) (by simp [f1, f32]) rfl rfl (by simp [f1, f32]) (.cons (.free (fr93 _)) (.nil)) (.inl ⟨rfl, rfl⟩) (fun t' ht' => ?_)
    refine Stk.gen (fun t H n => t 1 = .own b1 0 ∧ t 33 = .sc (.int .i64 x5) ∧ H b1 = some (.cells (c93 a0) 93) ∧ b1 < n) ⟨by simp [ht', f1], by simp [ht'], b_b1, l_b1⟩ ?_
    clear f1 f32 b_b1 l_b1 ht' t'
    rintro t H n ⟨f1, f33, b_b1, l_b1⟩
    refine Stk.run 1 (fun t H n => t 1 = .own b1 0 ∧ t 3 = .sc (.int .i64 x5) ∧ H b1 = some (.cells (c93 a0) 93) ∧ b1 < n) (fun J hJ => ?_) ?_
    · simp [-splice, f1, f33, b_b1]
      exact hJ _ _ _ ⟨by simp [f1], by simp [-splice, f1, f33, b_b1], b_b1, l_b1⟩
    clear f1 f33 b_b1 l_b1
    rintro t H n ⟨f1, f3, b_b1, l_b1⟩
    refine Stk.on ?_
    refine Stk.sq ?_
    refine Stk.sq ?_
    refine Stk.rg ?_
    refine Stk.run 5 (fun t H n => t 1 = .own b1 0 ∧ t 3 = .sc (.int .i64 x5) ∧ t 38 = .sc (.bool (decide (a0.Next < x5))) ∧ H b1 = some (.cells (c93 a0) 93) ∧ b1 < n) (fun J hJ => ?_) ?_
    · simp [-splice, f1, f3, b_b1, ld_93_3_3]
      exact hJ _ _ _ ⟨by simp [f1], by simp [f3], by simp [-splice, f1, f3, b_b1, ld_93_3_3], b_b1, l_b1⟩
    clear f1 f3 b_b1 l_b1
    rintro t H n ⟨f1, f3, f38, b_b1, l_b1⟩
    refine Stk.jo 8 (fun t H n => t 1 = .own b1 0 ∧ t 3 = .sc (.int .i64 x5) ∧ t 46 = .sc (.bool ((decide (a0.Next < x5)) || (decide (a0.Half < (IntKind.i64.wrap (a0.Next - x5)))))) ∧ H b1 = some (.cells (c93 a0) 93) ∧ b1 < n) (fun J4 hJ4 => ?_) ?_
    · rcases Bool.eq_false_or_eq_true (decide (a0.Next < x5)) with hb4 | hb4
      · rw [hb4] at f38
        refine Stk.run 8 (fun t H n => t 1 = .own b1 0 ∧ t 3 = .sc (.int .i64 x5) ∧ t 46 = .sc (.bool true) ∧ H b1 = some (.cells (c93 a0) 93) ∧ b1 < n) (fun J hJ => ?_) ?_
        · simp [-splice, f1, f3, f38, b_b1]
          exact hJ _ _ _ ⟨by simp [f1], by simp [f3], by simp [-splice, f1, f3, f38, b_b1], b_b1, l_b1⟩
        clear f1 f3 f38 b_b1 l_b1
        rintro t H n ⟨f1, f3, f46, b_b1, l_b1⟩
        refine Stk.on ?_
        exact Stk.ln 0 (by decide) (hJ4 _ _ _ ⟨f1, f3, f46.trans (congrArg (fun q => AV.sc (.bool q)) (by rw [hb4]; rfl)), b_b1, l_b1⟩)
      · rw [hb4] at f38
        refine Stk.run 8 (fun t H n => t 1 = .own b1 0 ∧ t 3 = .sc (.int .i64 x5) ∧ t 46 = .sc (.bool (decide (a0.Half < (IntKind.i64.wrap (a0.Next - x5))))) ∧ H b1 = some (.cells (c93 a0) 93) ∧ b1 < n) (fun J hJ => ?_) ?_
        · simp [-splice, f1, f3, f38, b_b1, ld_93_3_3, ld_93_1_3]
          exact hJ _ _ _ ⟨by simp [f1], by simp [f3], by simp [-splice, f1, f3, f38, b_b1, ld_93_3_3, ld_93_1_3], b_b1, l_b1⟩
        clear f1 f3 f38 b_b1 l_b1
        rintro t H n ⟨f1, f3, f46, b_b1, l_b1⟩
        refine Stk.on ?_
        exact Stk.ln 0 (by decide) (hJ4 _ _ _ ⟨f1, f3, f46.trans (congrArg (fun q => AV.sc (.bool q)) (by rw [hb4]; rfl)), b_b1, l_b1⟩)
    clear f1 f3 f38 b_b1 l_b1
    rintro t H n ⟨f1, f3, f46, b_b1, l_b1⟩
    refine Stk.on ?_
    refine Stk.cond ((decide (a0.Next < x5)) || (decide (a0.Half < (IntKind.i64.wrap (a0.Next - x5))))) (by exact f46) (fun hb6 => ?_) (fun hb6 => ?_)
    · have h := cT hb6 h
      refine Stk.sq ?_
      refine Stk.rg ?_
      refine Stk.run 1 (fun t H n => t 2 = .sc (.bool false)) (fun J hJ => ?_) ?_
      · simp [-splice, f1, f3, f46, b_b1]
        exact hJ _ _ _ (by simp [-splice, f1, f3, f46, b_b1])
      clear f1 f3 f46 b_b1 l_b1
      rintro t H n f2
      refine Stk.on ?_
      refine Stk.rt ?_
      have hq := Option.some.inj h; subst hq
      exact (hr _ _ _ (.sc (.bool false)) ([]) (by simp [f2]) (.inr (.inr (.free (rfl))))).1
    · have h := cF hb6 h
      refine Stk.sk ?_
      refine Stk.sq ?_
      refine Stk.rg ?_
      refine Stk.run 1 (fun t H n => t 1 = .own b1 0 ∧ t 3 = .sc (.int .i64 x5) ∧ t 4 = .sc (.bool false) ∧ H b1 = some (.cells (c93 a0) 93) ∧ b1 < n) (fun J hJ => ?_) ?_
      · simp [-splice, f1, f3, f46, b_b1]
        exact hJ _ _ _ ⟨by simp [f1], by simp [f3], by simp [-splice, f1, f3, f46, b_b1], b_b1, l_b1⟩
      clear f1 f3 f46 b_b1 l_b1
      rintro t H n ⟨f1, f3, f4, b_b1, l_b1⟩
      refine Stk.on ?_
      refine Stk.sq ?_
      obtain ⟨K5, hK5, h⟩ := jnd h
      refine Stk.jn (fun t H n => ∃ v7 : Bool, K5 v7 = some r ∧ t 1 = .own b1 0 ∧ t 4 = .sc (.bool v7) ∧ H b1 = some (.cells (c93 a0) 93) ∧ b1 < n) trivial (fun J5 hJ5 => ?_) ?_
      · skip
        refine Stk.bk ?_
        refine Stk.lo (fun μ t H n => ∃ v8 : Int, ∃ v9 : Bool, heap_Fit_L0 F a0 K5 μ v8 v9 = some r ∧ t 1 = .own b1 0 ∧ t 3 = .sc (.int .i64 v8) ∧ t 4 = .sc (.bool v9) ∧ H b1 = some (.cells (c93 a0) 93) ∧ b1 < n) F ⟨x5, false, h, f1, f3, f4, b_b1, l_b1⟩ ?_
        clear h f1 f3 f4 b_b1 l_b1
        rintro J6 hJ6 μ t H n ⟨v8, v9, h, f1, f3, f4, b_b1, l_b1⟩
        cases μ with
        | zero => exact absurd h (by simp [heap_Fit_L0])
        | succ μ =>
        rw [heap_Fit_L0] at h
        refine Stk.sq ?_
        refine Stk.sq ?_
        refine Stk.rg ?_
        refine Stk.run 4 (fun t H n => t 1 = .own b1 0 ∧ t 3 = .sc (.int .i64 v8) ∧ t 4 = .sc (.bool v9) ∧ t 50 = .sc (.bool (decide (v8 < a0.Next))) ∧ H b1 = some (.cells (c93 a0) 93) ∧ b1 < n) (fun J hJ => ?_) ?_
        · simp [-splice, f1, f3, f4, b_b1, ld_93_3_3]
          exact hJ _ _ _ ⟨by simp [f1], by simp [f3], by simp [f4], by simp [-splice, f1, f3, f4, b_b1, ld_93_3_3], b_b1, l_b1⟩
        clear f1 f3 f4 b_b1 l_b1
        rintro t H n ⟨f1, f3, f4, f50, b_b1, l_b1⟩
        refine Stk.on ?_
        refine Stk.cond (decide (v8 < a0.Next)) (by exact f50) (fun hb12 => ?_) (fun hb12 => ?_)
        · have h := cT hb12 h
          refine Stk.sk ?_
          refine Stk.bk ?_
          refine Stk.sq ?_
          refine Stk.rg ?_
          obtain ⟨x13, hx13, h⟩ := bnd h
          obtain ⟨i0x13, i1x13, i2x13, _⟩ := idx_ok hx13
          have ex13_0_40 : partOf T.T 40 (encs c40 a0.Words) (v8.toNat) = some (.sc (.int .u64 x13)) := by
              have e0 := part_elem0 (e := c40) (z := 1) (T := T.T) (ty := 40) T.t40 (by decide) (by decide) hx13 0 (by decide)
              (try simp only [Nat.mul_one, Nat.add_zero] at e0)
              exact e0.trans rfl
          refine Stk.run 5 (fun t H n => t 1 = .own b1 0 ∧ t 3 = .sc (.int .i64 v8) ∧ t 4 = .sc (.bool v9) ∧ t 56 = .sc (.int .u64 x13) ∧ H b1 = some (.cells (c93 a0) 93) ∧ b1 < n) (fun J hJ => ?_) ?_
          · simp [-splice, f1, f3, f4, f50, b_b1, ld_93_0_39, i0x13, i1x13, pd40, ex13_0_40]
            exact hJ _ _ _ ⟨by simp [f1], by simp [f3], by simp [f4], by simp [-splice, f1, f3, f4, f50, b_b1, ld_93_0_39, i0x13, i1x13, pd40, ex13_0_40], b_b1, l_b1⟩
          clear f1 f3 f4 f50 b_b1 l_b1
          rintro t H n ⟨f1, f3, f4, f56, b_b1, l_b1⟩
          obtain ⟨x14, hx14, h⟩ := bnd h
          refine Stk.cv (g := 57) (args := [.sc (.int .u64 x13)]) (args' := [.sc (.int .u64 x13)]) (v := .tup [.agg (c34 x14.1), .sc (.bool x14.2)]) [] (ok_heap_Read F _ _ hx14) (by simp [f1, f3, f4, f56]) rfl rfl (by simp [f1, f3, f4, f56]) (.cons (.free (rfl)) (.nil)) (.inl ⟨rfl, by simp [free, freeL, fr34]⟩) (fun t' ht' => ?_)
          refine Stk.gen (fun t H n => t 1 = .own b1 0 ∧ t 3 = .sc (.int .i64 v8) ∧ t 4 = .sc (.bool v9) ∧ t 57 = .tup [.agg (c34 x14.1), .sc (.bool x14.2)] ∧ H b1 = some (.cells (c93 a0) 93) ∧ b1 < n) ⟨by simp [ht', f1], by simp [ht', f3], by simp [ht', f4], by simp [ht'], b_b1, l_b1⟩ ?_
          clear f1 f3 f4 f56 b_b1 l_b1 ht' t'
          rintro t H n ⟨f1, f3, f4, f57, b_b1, l_b1⟩
          refine Stk.run 3 (fun t H n => t 1 = .own b1 0 ∧ t 3 = .sc (.int .i64 v8) ∧ t 4 = .sc (.bool v9) ∧ t 58 = .agg (c34 x14.1) ∧ t 59 = .sc (.bool x14.2) ∧ H b1 = some (.cells (c93 a0) 93) ∧ b1 < n) (fun J hJ => ?_) ?_
          · simp [-splice, f1, f3, f4, f57, b_b1]
            exact hJ _ _ _ ⟨by simp [f1], by simp [f3], by simp [f4], by simp [-splice, f1, f3, f4, f57, b_b1], by simp [-splice, f1, f3, f4, f57, b_b1], b_b1, l_b1⟩
          clear f1 f3 f4 f57 b_b1 l_b1
          rintro t H n ⟨f1, f3, f4, f58, f59, b_b1, l_b1⟩
          refine Stk.om (mop_alloc T.t34 (cs := c34 (api_Head.mk 0 0 0)) rfl) (by simp [f1, f3, f4, f58, f59]) rfl (fun t' ht' => ?_)
          refine Stk.gen (fun t H n => ∃ b15, t 1 = .own b1 0 ∧ t 3 = .sc (.int .i64 v8) ∧ t 4 = .sc (.bool v9) ∧ t 5 = .own b15 0 ∧ t 58 = .agg (c34 x14.1) ∧ t 59 = .sc (.bool x14.2) ∧ H b1 = some (.cells (c93 a0) 93) ∧ b1 < n ∧ H b15 = some (.cells (c34 (api_Head.mk 0 0 0)) 34) ∧ b15 < n ∧ b1 ≠ b15) ⟨n, by simp [ht', f1], by simp [ht', f3], by simp [ht', f4], by simp [ht'], by simp [ht', f58], by simp [ht', f59], (upd_ne _ _ (Nat.ne_of_lt l_b1)).trans b_b1, Nat.lt_succ_of_lt l_b1, upd_same _ _ _, Nat.lt_succ_self _, Nat.ne_of_lt l_b1⟩ ?_
          clear f1 f3 f4 f58 f59 b_b1 l_b1 ht' t'
          rintro t H n ⟨b15, f1, f3, f4, f5, f58, f59, b_b1, l_b1, b_b15, l_b15, d_b1_b15⟩
          refine Stk.om (mop_store (z := 3) rfl f5 b_b15 f58 (len34 _) (by rw [len34]; decide) (ok34 _) (st_34_0_34 _ _)) (by simp [f1, f3, f4, f5, f58, f59]) rfl (fun t' ht' => ?_)
          refine Stk.gen (fun t H n => t 1 = .own b1 0 ∧ t 3 = .sc (.int .i64 v8) ∧ t 4 = .sc (.bool v9) ∧ t 5 = .own b15 0 ∧ t 59 = .sc (.bool x14.2) ∧ H b1 = some (.cells (c93 a0) 93) ∧ b1 < n ∧ H b15 = some (.cells (c34 x14.1) 34) ∧ b15 < n ∧ b1 ≠ b15) ⟨by simp [ht', f1], by simp [ht', f3], by simp [ht', f4], by simp [ht', f5], by simp [ht', f59], (upd_ne _ _ d_b1_b15).trans b_b1, l_b1, upd_same _ _ _, l_b15, d_b1_b15⟩ ?_
          clear f1 f3 f4 f5 f58 f59 b_b1 l_b1 b_b15 l_b15 d_b1_b15 ht' t'
          rintro t H n ⟨f1, f3, f4, f5, f59, b_b1, l_b1, b_b15, l_b15, d_b1_b15⟩
          refine Stk.run 1 (fun t H n => t 1 = .own b1 0 ∧ t 3 = .sc (.int .i64 v8) ∧ t 4 = .sc (.bool v9) ∧ t 5 = .own b15 0 ∧ t 6 = .sc (.bool x14.2) ∧ H b1 = some (.cells (c93 a0) 93) ∧ b1 < n ∧ H b15 = some (.cells (c34 x14.1) 34) ∧ b15 < n ∧ b1 ≠ b15) (fun J hJ => ?_) ?_
          · simp [-splice, f1, f3, f4, f5, f59, b_b1, b_b15]
            exact hJ _ _ _ ⟨by simp [f1], by simp [f3], by simp [f4], by simp [f5], by simp [-splice, f1, f3, f4, f5, f59, b_b1, b_b15], b_b1, l_b1, b_b15, l_b15, d_b1_b15⟩
          clear f1 f3 f4 f5 f59 b_b1 l_b1 b_b15 l_b15 d_b1_b15
          rintro t H n ⟨f1, f3, f4, f5, f6, b_b1, l_b1, b_b15, l_b15, d_b1_b15⟩
          refine Stk.on ?_
          refine Stk.sq ?_
          refine Stk.sq ?_
          obtain ⟨n0, hn0⟩ : ∃ m, m = n := ⟨n, rfl⟩
          have ln0 : n0 ≤ n := Nat.le_of_eq hn0
          refine Stk.rgD [.rd [], .rd [], .rd [], .rd [], .rd [b15], .rd [], .rd [], .rd [], .rd [b1], .rd [], .rd [], .rd [], .rd [], .rd [b1], .rd [], .rd [], .rd [], .rd [], .rd [], .rd [], .rd [], .rd [], .rd []] none (by kernel_rfl) (by rfl) rfl (by simp [below, hn0, l_b1, hn0, l_b15]) rfl ?_
          refine Stk.runD 3 (fun t H n => t 1 = .own b1 0 ∧ t 3 = .sc (.int .i64 v8) ∧ t 4 = .sc (.bool v9) ∧ t 5 = .own b15 0 ∧ t 62 = .sc (.bool (!x14.2)) ∧ H b1 = some (.cells (c93 a0) 93) ∧ b1 < n ∧ H b15 = some (.cells (c34 x14.1) 34) ∧ b15 < n ∧ b1 ≠ b15 ∧ n0 ≤ n) (fun J hJ => ?_) ?_
          · simp [-splice, f1, f3, f4, f5, f6, b_b1, b_b15]
            exact hJ _ _ _ ⟨by simp [f1], by simp [f3], by simp [f4], by simp [f5], by simp [-splice, f1, f3, f4, f5, f6, b_b1, b_b15], b_b1, l_b1, b_b15, l_b15, d_b1_b15, ln0⟩
          clear f1 f3 f4 f5 f6 b_b1 l_b1 b_b15 l_b15 d_b1_b15 ln0
          rintro t H n ⟨f1, f3, f4, f5, f62, b_b1, l_b1, b_b15, l_b15, d_b1_b15, ln0⟩
          obtain ⟨K7, hK7, h⟩ := jnd h
          refine Stk.jd 8 (fun t H n => ∃ v16 : Bool, K7 v16 = some r ∧ t 1 = .own b1 0 ∧ t 3 = .sc (.int .i64 v8) ∧ t 4 = .sc (.bool v9) ∧ t 5 = .own b15 0 ∧ t 70 = .sc (.bool v16) ∧ H b1 = some (.cells (c93 a0) 93) ∧ b1 < n ∧ H b15 = some (.cells (c34 x14.1) 34) ∧ b15 < n ∧ b1 ≠ b15) (fun J7 hJ7 => ?_) ?_
          · rcases Bool.eq_false_or_eq_true (!x14.2) with hb7 | hb7
            · rw [hb7] at f62
              replace h := cT hb7 h
              refine Stk.runD 8 (fun t H n => t 1 = .own b1 0 ∧ t 3 = .sc (.int .i64 v8) ∧ t 4 = .sc (.bool v9) ∧ t 5 = .own b15 0 ∧ t 70 = .sc (.bool true) ∧ H b1 = some (.cells (c93 a0) 93) ∧ b1 < n ∧ H b15 = some (.cells (c34 x14.1) 34) ∧ b15 < n ∧ b1 ≠ b15 ∧ n0 ≤ n) (fun J hJ => ?_) ?_
              · simp [-splice, f1, f3, f4, f5, f62, b_b1, b_b15]
                exact hJ _ _ _ ⟨by simp [f1], by simp [f3], by simp [f4], by simp [f5], by simp [-splice, f1, f3, f4, f5, f62, b_b1, b_b15], b_b1, l_b1, b_b15, l_b15, d_b1_b15, ln0⟩
              clear f1 f3 f4 f5 f62 b_b1 l_b1 b_b15 l_b15 d_b1_b15 ln0
              rintro t H n ⟨f1, f3, f4, f5, f70, b_b1, l_b1, b_b15, l_b15, d_b1_b15, ln0⟩
              refine Stk.onD ?_
              exact Stk.ln 0 (by decide) (hJ7 _ _ _ ⟨true, h, f1, f3, f4, f5, f70, b_b1, l_b1, b_b15, l_b15, d_b1_b15⟩)
            · rw [hb7] at f62
              replace h := cF hb7 h
              refine Stk.runD 2 (fun t H n => t 1 = .own b1 0 ∧ t 3 = .sc (.int .i64 v8) ∧ t 4 = .sc (.bool v9) ∧ t 5 = .own b15 0 ∧ t 62 = .sc (.bool false) ∧ t 63 = .sc (.int .i64 v8) ∧ t 64 = .agg (c34 x14.1) ∧ H b1 = some (.cells (c93 a0) 93) ∧ b1 < n ∧ H b15 = some (.cells (c34 x14.1) 34) ∧ b15 < n ∧ b1 ≠ b15 ∧ n0 ≤ n) (fun J hJ => ?_) ?_
              · simp [-splice, f1, f3, f4, f5, f62, b_b1, b_b15, ld_34_0_34]
                exact hJ _ _ _ ⟨by simp [f1], by simp [f3], by simp [f4], by simp [f5], by simp [f62], by simp [-splice, f1, f3, f4, f5, f62, b_b1, b_b15, ld_34_0_34], by simp [-splice, f1, f3, f4, f5, f62, b_b1, b_b15, ld_34_0_34], b_b1, l_b1, b_b15, l_b15, d_b1_b15, ln0⟩
              clear f1 f3 f4 f5 f62 b_b1 l_b1 b_b15 l_b15 d_b1_b15 ln0
              rintro t H n ⟨f1, f3, f4, f5, f62, f63, f64, b_b1, l_b1, b_b15, l_b15, d_b1_b15, ln0⟩
              obtain ⟨x17, hx17, h⟩ := bnd h
              refine Stk.cvD (g := 49) (args := [.agg (c34 x14.1)]) (args' := [.agg (c34 x14.1)]) (v := .sc (.int .i64 x17)) [] (ok_heap_Size F _ _ hx17) rfl (by simp) rfl (by simp [f1, f3, f4, f5, f62, f63, f64]) rfl rfl (by simp [f1, f3, f4, f5, f62, f63, f64]) (.cons (.free (fr34 _)) (.nil)) (.inl ⟨rfl, rfl⟩) (fun t' ht' => ?_)
              refine Stk.gen (fun t H n => t 1 = .own b1 0 ∧ t 3 = .sc (.int .i64 v8) ∧ t 4 = .sc (.bool v9) ∧ t 5 = .own b15 0 ∧ t 62 = .sc (.bool false) ∧ t 63 = .sc (.int .i64 v8) ∧ t 65 = .sc (.int .i64 x17) ∧ H b1 = some (.cells (c93 a0) 93) ∧ b1 < n ∧ H b15 = some (.cells (c34 x14.1) 34) ∧ b15 < n ∧ b1 ≠ b15 ∧ n0 ≤ n) ⟨by simp [ht', f1], by simp [ht', f3], by simp [ht', f4], by simp [ht', f5], by simp [ht', f62], by simp [ht', f63], by simp [ht'], b_b1, l_b1, b_b15, l_b15, d_b1_b15, ln0⟩ ?_
              clear f1 f3 f4 f5 f62 f63 f64 b_b1 l_b1 b_b15 l_b15 d_b1_b15 ln0 ht' t'
              rintro t H n ⟨f1, f3, f4, f5, f62, f63, f65, b_b1, l_b1, b_b15, l_b15, d_b1_b15, ln0⟩
              refine Stk.runD 5 (fun t H n => t 1 = .own b1 0 ∧ t 3 = .sc (.int .i64 v8) ∧ t 4 = .sc (.bool v9) ∧ t 5 = .own b15 0 ∧ t 70 = .sc (.bool (decide (a0.Next < (IntKind.i64.wrap (v8 + x17))))) ∧ H b1 = some (.cells (c93 a0) 93) ∧ b1 < n ∧ H b15 = some (.cells (c34 x14.1) 34) ∧ b15 < n ∧ b1 ≠ b15 ∧ n0 ≤ n) (fun J hJ => ?_) ?_
              · simp [-splice, f1, f3, f4, f5, f62, f63, f65, b_b1, b_b15, ld_93_3_3]
                exact hJ _ _ _ ⟨by simp [f1], by simp [f3], by simp [f4], by simp [f5], by simp [-splice, f1, f3, f4, f5, f62, f63, f65, b_b1, b_b15, ld_93_3_3], b_b1, l_b1, b_b15, l_b15, d_b1_b15, ln0⟩
              clear f1 f3 f4 f5 f62 f63 f65 b_b1 l_b1 b_b15 l_b15 d_b1_b15 ln0
              rintro t H n ⟨f1, f3, f4, f5, f70, b_b1, l_b1, b_b15, l_b15, d_b1_b15, ln0⟩
              refine Stk.onD ?_
              exact Stk.ln 0 (by decide) (hJ7 _ _ _ ⟨(decide (a0.Next < (IntKind.i64.wrap (v8 + x17)))), h, f1, f3, f4, f5, f70, b_b1, l_b1, b_b15, l_b15, d_b1_b15⟩)
          clear h f1 f3 f4 f5 f62 b_b1 l_b1 b_b15 l_b15 d_b1_b15 ln0
          rintro t H n ⟨v16, h, f1, f3, f4, f5, f70, b_b1, l_b1, b_b15, l_b15, d_b1_b15⟩
          subst hK7
          refine Stk.runD 1 (fun t H n => t 1 = .own b1 0 ∧ t 3 = .sc (.int .i64 v8) ∧ t 4 = .sc (.bool v9) ∧ t 5 = .own b15 0 ∧ t 71 = .sc (.bool v16) ∧ H b1 = some (.cells (c93 a0) 93) ∧ b1 < n ∧ H b15 = some (.cells (c34 x14.1) 34) ∧ b15 < n ∧ b1 ≠ b15) (fun J hJ => ?_) ?_
          · simp [-splice, f1, f3, f4, f5, f70, b_b1, b_b15]
            exact hJ _ _ _ ⟨by simp [f1], by simp [f3], by simp [f4], by simp [f5], by simp [-splice, f1, f3, f4, f5, f70, b_b1, b_b15], b_b1, l_b1, b_b15, l_b15, d_b1_b15⟩
          clear f1 f3 f4 f5 f70 b_b1 l_b1 b_b15 l_b15 d_b1_b15
          rintro t H n ⟨f1, f3, f4, f5, f71, b_b1, l_b1, b_b15, l_b15, d_b1_b15⟩
          obtain ⟨K8, hK8, h⟩ := jnd h
          refine Stk.jd 11 (fun t H n => ∃ v18 : Bool, K8 v18 = some r ∧ t 1 = .own b1 0 ∧ t 3 = .sc (.int .i64 v8) ∧ t 4 = .sc (.bool v9) ∧ t 5 = .own b15 0 ∧ t 82 = .sc (.bool v18) ∧ H b1 = some (.cells (c93 a0) 93) ∧ b1 < n ∧ H b15 = some (.cells (c34 x14.1) 34) ∧ b15 < n ∧ b1 ≠ b15) (fun J8 hJ8 => ?_) ?_
          · rcases Bool.eq_false_or_eq_true v16 with hb8 | hb8
            · rw [hb8] at f71
              replace h := cT hb8 h
              refine Stk.runD 11 (fun t H n => t 1 = .own b1 0 ∧ t 3 = .sc (.int .i64 v8) ∧ t 4 = .sc (.bool v9) ∧ t 5 = .own b15 0 ∧ t 82 = .sc (.bool true) ∧ H b1 = some (.cells (c93 a0) 93) ∧ b1 < n ∧ H b15 = some (.cells (c34 x14.1) 34) ∧ b15 < n ∧ b1 ≠ b15) (fun J hJ => ?_) ?_
              · simp [-splice, f1, f3, f4, f5, f71, b_b1, b_b15]
                exact hJ _ _ _ ⟨by simp [f1], by simp [f3], by simp [f4], by simp [f5], by simp [-splice, f1, f3, f4, f5, f71, b_b1, b_b15], b_b1, l_b1, b_b15, l_b15, d_b1_b15⟩
              clear f1 f3 f4 f5 f71 b_b1 l_b1 b_b15 l_b15 d_b1_b15
              rintro t H n ⟨f1, f3, f4, f5, f82, b_b1, l_b1, b_b15, l_b15, d_b1_b15⟩
              refine Stk.onD ?_
              exact Stk.ln 0 (by decide) (hJ8 _ _ _ ⟨true, h, f1, f3, f4, f5, f82, b_b1, l_b1, b_b15, l_b15, d_b1_b15⟩)
            · rw [hb8] at f71
              replace h := cF hb8 h
              obtain ⟨x19, hx19, h⟩ := bnd h
              obtain ⟨i0x19, i1x19, i2x19, _⟩ := idx_ok hx19
              have ex19_0_40 : partOf T.T 40 (encs c40 a0.Words) ((IntKind.i64.wrap (v8 + 1)).toNat) = some (.sc (.int .u64 x19)) := by
                  have e0 := part_elem0 (e := c40) (z := 1) (T := T.T) (ty := 40) T.t40 (by decide) (by decide) hx19 0 (by decide)
                  (try simp only [Nat.mul_one, Nat.add_zero] at e0)
                  exact e0.trans rfl
              refine Stk.runD 8 (fun t H n => t 1 = .own b1 0 ∧ t 3 = .sc (.int .i64 v8) ∧ t 4 = .sc (.bool v9) ∧ t 5 = .own b15 0 ∧ t 71 = .sc (.bool false) ∧ t 77 = .sc (.int .u64 x19) ∧ t 79 = .sc (.int .u32 (IntKind.u32.wrap v8)) ∧ H b1 = some (.cells (c93 a0) 93) ∧ b1 < n ∧ H b15 = some (.cells (c34 x14.1) 34) ∧ b15 < n ∧ b1 ≠ b15) (fun J hJ => ?_) ?_
              · simp [-splice, f1, f3, f4, f5, f71, b_b1, b_b15, ld_93_0_39, i0x19, i1x19, pd40, ex19_0_40]
                exact hJ _ _ _ ⟨by simp [f1], by simp [f3], by simp [f4], by simp [f5], by simp [f71], by simp [-splice, f1, f3, f4, f5, f71, b_b1, b_b15, ld_93_0_39, i0x19, i1x19, pd40, ex19_0_40], by simp [-splice, f1, f3, f4, f5, f71, b_b1, b_b15, ld_93_0_39, i0x19, i1x19, pd40, ex19_0_40], b_b1, l_b1, b_b15, l_b15, d_b1_b15⟩
              clear f1 f3 f4 f5 f71 b_b1 l_b1 b_b15 l_b15 d_b1_b15
              rintro t H n ⟨f1, f3, f4, f5, f71, f77, f79, b_b1, l_b1, b_b15, l_b15, d_b1_b15⟩
              obtain ⟨x20, hx20, h⟩ := bnd h
              refine Stk.cvD (g := 41) (args := [.sc (.int .u32 (IntKind.u32.wrap v8))]) (args' := [.sc (.int .u32 (IntKind.u32.wrap v8))]) (v := .sc (.int .u64 x20)) [] (ok_word_Ptr F _ _ hx20) rfl (by simp) rfl (by simp [f1, f3, f4, f5, f71, f77, f79]) rfl rfl (by simp [f1, f3, f4, f5, f71, f77, f79]) (.cons (.free (rfl)) (.nil)) (.inl ⟨rfl, rfl⟩) (fun t' ht' => ?_)
              refine Stk.gen (fun t H n => t 1 = .own b1 0 ∧ t 3 = .sc (.int .i64 v8) ∧ t 4 = .sc (.bool v9) ∧ t 5 = .own b15 0 ∧ t 71 = .sc (.bool false) ∧ t 77 = .sc (.int .u64 x19) ∧ t 80 = .sc (.int .u64 x20) ∧ H b1 = some (.cells (c93 a0) 93) ∧ b1 < n ∧ H b15 = some (.cells (c34 x14.1) 34) ∧ b15 < n ∧ b1 ≠ b15) ⟨by simp [ht', f1], by simp [ht', f3], by simp [ht', f4], by simp [ht', f5], by simp [ht', f71], by simp [ht', f77], by simp [ht'], b_b1, l_b1, b_b15, l_b15, d_b1_b15⟩ ?_
              clear f1 f3 f4 f5 f71 f77 f79 b_b1 l_b1 b_b15 l_b15 d_b1_b15 ht' t'
              rintro t H n ⟨f1, f3, f4, f5, f71, f77, f80, b_b1, l_b1, b_b15, l_b15, d_b1_b15⟩
              refine Stk.runD 2 (fun t H n => t 1 = .own b1 0 ∧ t 3 = .sc (.int .i64 v8) ∧ t 4 = .sc (.bool v9) ∧ t 5 = .own b15 0 ∧ t 82 = .sc (.bool (x19 != x20)) ∧ H b1 = some (.cells (c93 a0) 93) ∧ b1 < n ∧ H b15 = some (.cells (c34 x14.1) 34) ∧ b15 < n ∧ b1 ≠ b15) (fun J hJ => ?_) ?_
              · simp [-splice, f1, f3, f4, f5, f71, f77, f80, b_b1, b_b15]
                exact hJ _ _ _ ⟨by simp [f1], by simp [f3], by simp [f4], by simp [f5], by simp [-splice, f1, f3, f4, f5, f71, f77, f80, b_b1, b_b15], b_b1, l_b1, b_b15, l_b15, d_b1_b15⟩
              clear f1 f3 f4 f5 f71 f77 f80 b_b1 l_b1 b_b15 l_b15 d_b1_b15
              rintro t H n ⟨f1, f3, f4, f5, f82, b_b1, l_b1, b_b15, l_b15, d_b1_b15⟩
              refine Stk.onD ?_
              exact Stk.ln 0 (by decide) (hJ8 _ _ _ ⟨(x19 != x20), h, f1, f3, f4, f5, f82, b_b1, l_b1, b_b15, l_b15, d_b1_b15⟩)
          clear h f1 f3 f4 f5 f71 b_b1 l_b1 b_b15 l_b15 d_b1_b15
          rintro t H n ⟨v18, h, f1, f3, f4, f5, f82, b_b1, l_b1, b_b15, l_b15, d_b1_b15⟩
          subst hK8
          refine Stk.onD ?_
          refine Stk.cond v18 (by exact f82) (fun hb21 => ?_) (fun hb21 => ?_)
          · have h := cT hb21 h
            refine Stk.sq ?_
            refine Stk.rg ?_
            refine Stk.run 1 (fun t H n => t 2 = .sc (.bool false)) (fun J hJ => ?_) ?_
            · simp [-splice, f1, f3, f4, f5, f82, b_b1, b_b15]
              exact hJ _ _ _ (by simp [-splice, f1, f3, f4, f5, f82, b_b1, b_b15])
            clear f1 f3 f4 f5 f82 b_b1 l_b1 b_b15 l_b15 d_b1_b15
            rintro t H n f2
            refine Stk.on ?_
            refine Stk.rt ?_
            have hq := Option.some.inj h; subst hq
            exact (hr _ _ _ (.sc (.bool false)) ([]) (by simp [f2]) (.inr (.inr (.free (rfl))))).1
          · have h := cF hb21 h
            refine Stk.sk ?_
            refine Stk.sq ?_
            refine Stk.rg ?_
            refine Stk.run 2 (fun t H n => t 1 = .own b1 0 ∧ t 3 = .sc (.int .i64 v8) ∧ t 5 = .own b15 0 ∧ t 84 = .sc (.bool v9) ∧ H b1 = some (.cells (c93 a0) 93) ∧ b1 < n ∧ H b15 = some (.cells (c34 x14.1) 34) ∧ b15 < n ∧ b1 ≠ b15) (fun J hJ => ?_) ?_
            · simp [-splice, f1, f3, f4, f5, f82, b_b1, b_b15]
              exact hJ _ _ _ ⟨by simp [f1], by simp [f3], by simp [f5], by simp [-splice, f1, f3, f4, f5, f82, b_b1, b_b15], b_b1, l_b1, b_b15, l_b15, d_b1_b15⟩
            clear f1 f3 f4 f5 f82 b_b1 l_b1 b_b15 l_b15 d_b1_b15
            rintro t H n ⟨f1, f3, f5, f84, b_b1, l_b1, b_b15, l_b15, d_b1_b15⟩
            refine Stk.jo 5 (fun t H n => t 1 = .own b1 0 ∧ t 3 = .sc (.int .i64 v8) ∧ t 5 = .own b15 0 ∧ t 89 = .sc (.bool (v9 || (v8 == a0.Scan))) ∧ H b1 = some (.cells (c93 a0) 93) ∧ b1 < n ∧ H b15 = some (.cells (c34 x14.1) 34) ∧ b15 < n ∧ b1 ≠ b15) (fun J9 hJ9 => ?_) ?_
            · rcases Bool.eq_false_or_eq_true v9 with hb9 | hb9
              · rw [hb9] at f84
                refine Stk.run 5 (fun t H n => t 1 = .own b1 0 ∧ t 3 = .sc (.int .i64 v8) ∧ t 5 = .own b15 0 ∧ t 89 = .sc (.bool true) ∧ H b1 = some (.cells (c93 a0) 93) ∧ b1 < n ∧ H b15 = some (.cells (c34 x14.1) 34) ∧ b15 < n ∧ b1 ≠ b15) (fun J hJ => ?_) ?_
                · simp [-splice, f1, f3, f5, f84, b_b1, b_b15]
                  exact hJ _ _ _ ⟨by simp [f1], by simp [f3], by simp [f5], by simp [-splice, f1, f3, f5, f84, b_b1, b_b15], b_b1, l_b1, b_b15, l_b15, d_b1_b15⟩
                clear f1 f3 f5 f84 b_b1 l_b1 b_b15 l_b15 d_b1_b15
                rintro t H n ⟨f1, f3, f5, f89, b_b1, l_b1, b_b15, l_b15, d_b1_b15⟩
                refine Stk.on ?_
                exact Stk.ln 0 (by decide) (hJ9 _ _ _ ⟨f1, f3, f5, f89.trans (congrArg (fun q => AV.sc (.bool q)) (by rw [hb9]; rfl)), b_b1, l_b1, b_b15, l_b15, d_b1_b15⟩)
              · rw [hb9] at f84
                refine Stk.run 5 (fun t H n => t 1 = .own b1 0 ∧ t 3 = .sc (.int .i64 v8) ∧ t 5 = .own b15 0 ∧ t 89 = .sc (.bool (v8 == a0.Scan)) ∧ H b1 = some (.cells (c93 a0) 93) ∧ b1 < n ∧ H b15 = some (.cells (c34 x14.1) 34) ∧ b15 < n ∧ b1 ≠ b15) (fun J hJ => ?_) ?_
                · simp [-splice, f1, f3, f5, f84, b_b1, b_b15, ld_93_5_3]
                  exact hJ _ _ _ ⟨by simp [f1], by simp [f3], by simp [f5], by simp [-splice, f1, f3, f5, f84, b_b1, b_b15, ld_93_5_3], b_b1, l_b1, b_b15, l_b15, d_b1_b15⟩
                clear f1 f3 f5 f84 b_b1 l_b1 b_b15 l_b15 d_b1_b15
                rintro t H n ⟨f1, f3, f5, f89, b_b1, l_b1, b_b15, l_b15, d_b1_b15⟩
                refine Stk.on ?_
                exact Stk.ln 0 (by decide) (hJ9 _ _ _ ⟨f1, f3, f5, f89.trans (congrArg (fun q => AV.sc (.bool q)) (by rw [hb9]; rfl)), b_b1, l_b1, b_b15, l_b15, d_b1_b15⟩)
            clear f1 f3 f5 f84 b_b1 l_b1 b_b15 l_b15 d_b1_b15
            rintro t H n ⟨f1, f3, f5, f89, b_b1, l_b1, b_b15, l_b15, d_b1_b15⟩
            refine Stk.run 1 (fun t H n => t 1 = .own b1 0 ∧ t 3 = .sc (.int .i64 v8) ∧ t 4 = .sc (.bool (v9 || (v8 == a0.Scan))) ∧ t 5 = .own b15 0 ∧ H b1 = some (.cells (c93 a0) 93) ∧ b1 < n ∧ H b15 = some (.cells (c34 x14.1) 34) ∧ b15 < n ∧ b1 ≠ b15) (fun J hJ => ?_) ?_
            · simp [-splice, f1, f3, f5, f89, b_b1, b_b15]
              exact hJ _ _ _ ⟨by simp [f1], by simp [f3], by simp [-splice, f1, f3, f5, f89, b_b1, b_b15], by simp [f5], b_b1, l_b1, b_b15, l_b15, d_b1_b15⟩
            clear f1 f3 f5 f89 b_b1 l_b1 b_b15 l_b15 d_b1_b15
            rintro t H n ⟨f1, f3, f4, f5, b_b1, l_b1, b_b15, l_b15, d_b1_b15⟩
            refine Stk.on ?_
            refine Stk.rg ?_
            refine Stk.run 2 (fun t H n => t 1 = .own b1 0 ∧ t 4 = .sc (.bool (v9 || (v8 == a0.Scan))) ∧ t 90 = .sc (.int .i64 v8) ∧ t 91 = .agg (c34 x14.1) ∧ H b1 = some (.cells (c93 a0) 93) ∧ b1 < n) (fun J hJ => ?_) ?_
            · simp [-splice, f1, f3, f4, f5, b_b1, b_b15, ld_34_0_34]
              exact hJ _ _ _ ⟨by simp [f1], by simp [f4], by simp [-splice, f1, f3, f4, f5, b_b1, b_b15, ld_34_0_34], by simp [-splice, f1, f3, f4, f5, b_b1, b_b15, ld_34_0_34], b_b1, l_b1⟩
            clear f1 f3 f4 f5 b_b1 l_b1 b_b15 l_b15 d_b1_b15
            rintro t H n ⟨f1, f4, f90, f91, b_b1, l_b1⟩
            obtain ⟨x22, hx22, h⟩ := bnd h
            refine Stk.cv (g := 49) (args := [.agg (c34 x14.1)]) (args' := [.agg (c34 x14.1)]) (v := .sc (.int .i64 x22)) [] (ok_heap_Size F _ _ hx22) (by simp [f1, f4, f90, f91]) rfl rfl (by simp [f1, f4, f90, f91]) (.cons (.free (fr34 _)) (.nil)) (.inl ⟨rfl, rfl⟩) (fun t' ht' => ?_)
            refine Stk.gen (fun t H n => t 1 = .own b1 0 ∧ t 4 = .sc (.bool (v9 || (v8 == a0.Scan))) ∧ t 90 = .sc (.int .i64 v8) ∧ t 92 = .sc (.int .i64 x22) ∧ H b1 = some (.cells (c93 a0) 93) ∧ b1 < n) ⟨by simp [ht', f1], by simp [ht', f4], by simp [ht', f90], by simp [ht'], b_b1, l_b1⟩ ?_
            clear f1 f4 f90 f91 b_b1 l_b1 ht' t'
            rintro t H n ⟨f1, f4, f90, f92, b_b1, l_b1⟩
            refine Stk.run 2 (fun t H n => t 1 = .own b1 0 ∧ t 3 = .sc (.int .i64 (IntKind.i64.wrap (v8 + x22))) ∧ t 4 = .sc (.bool (v9 || (v8 == a0.Scan))) ∧ H b1 = some (.cells (c93 a0) 93) ∧ b1 < n) (fun J hJ => ?_) ?_
            · simp [-splice, f1, f4, f90, f92, b_b1]
              exact hJ _ _ _ ⟨by simp [f1], by simp [-splice, f1, f4, f90, f92, b_b1], by simp [f4], b_b1, l_b1⟩
            clear f1 f4 f90 f92 b_b1 l_b1
            rintro t H n ⟨f1, f3, f4, b_b1, l_b1⟩
            refine Stk.on ?_
            refine Stk.bn ?_
            exact Stk.ln μ (Nat.lt_succ_self _) (hJ6 _ _ _ _ ⟨(IntKind.i64.wrap (v8 + x22)), (v9 || (v8 == a0.Scan)), h, f1, f3, f4, b_b1, l_b1⟩)
        · have h := cF hb12 h
          refine Stk.ex rfl ?_
          exact Stk.ln 0 (by decide) (hJ5 _ _ _ ⟨v9, h, f1, f4, b_b1, l_b1⟩)
      clear h f1 f3 f4 b_b1 l_b1
      rintro t H n ⟨v7, h, f1, f4, b_b1, l_b1⟩
      subst hK5
      refine Stk.sq ?_
      refine Stk.rg ?_
      refine Stk.run 3 (fun t H n => t 1 = .own b1 0 ∧ t 4 = .sc (.bool v7) ∧ t 96 = .sc (.bool a0.On) ∧ H b1 = some (.cells (c93 a0) 93) ∧ b1 < n) (fun J hJ => ?_) ?_
      · simp [-splice, f1, f4, b_b1, ld_93_4_4]
        exact hJ _ _ _ ⟨by simp [f1], by simp [f4], by simp [-splice, f1, f4, b_b1, ld_93_4_4], b_b1, l_b1⟩
      clear f1 f4 b_b1 l_b1
      rintro t H n ⟨f1, f4, f96, b_b1, l_b1⟩
      refine Stk.jo 9 (fun t H n => t 1 = .own b1 0 ∧ t 105 = .sc (.bool (a0.On && (v7 || (a0.Scan == a0.Next)))) ∧ H b1 = some (.cells (c93 a0) 93) ∧ b1 < n) (fun J10 hJ10 => ?_) ?_
      · rcases Bool.eq_false_or_eq_true a0.On with hb10 | hb10
        · rw [hb10] at f96
          refine Stk.run 2 (fun t H n => t 1 = .own b1 0 ∧ t 96 = .sc (.bool true) ∧ t 98 = .sc (.bool v7) ∧ H b1 = some (.cells (c93 a0) 93) ∧ b1 < n) (fun J hJ => ?_) ?_
          · simp [-splice, f1, f4, f96, b_b1]
            exact hJ _ _ _ ⟨by simp [f1], by simp [f96], by simp [-splice, f1, f4, f96, b_b1], b_b1, l_b1⟩
          clear f1 f4 f96 b_b1 l_b1
          rintro t H n ⟨f1, f96, f98, b_b1, l_b1⟩
          refine Stk.jo 6 (fun t H n => t 1 = .own b1 0 ∧ t 96 = .sc (.bool true) ∧ t 104 = .sc (.bool (v7 || (a0.Scan == a0.Next))) ∧ H b1 = some (.cells (c93 a0) 93) ∧ b1 < n) (fun J11 hJ11 => ?_) ?_
          · rcases Bool.eq_false_or_eq_true v7 with hb11 | hb11
            · rw [hb11] at f98
              refine Stk.run 6 (fun t H n => t 1 = .own b1 0 ∧ t 96 = .sc (.bool true) ∧ t 104 = .sc (.bool true) ∧ H b1 = some (.cells (c93 a0) 93) ∧ b1 < n) (fun J hJ => ?_) ?_
              · simp [-splice, f1, f96, f98, b_b1]
                exact hJ _ _ _ ⟨by simp [f1], by simp [f96], by simp [-splice, f1, f96, f98, b_b1], b_b1, l_b1⟩
              clear f1 f96 f98 b_b1 l_b1
              rintro t H n ⟨f1, f96, f104, b_b1, l_b1⟩
              refine Stk.on ?_
              exact Stk.ln 0 (by decide) (hJ11 _ _ _ ⟨f1, f96, f104.trans (congrArg (fun q => AV.sc (.bool q)) (by rw [hb11]; rfl)), b_b1, l_b1⟩)
            · rw [hb11] at f98
              refine Stk.run 6 (fun t H n => t 1 = .own b1 0 ∧ t 96 = .sc (.bool true) ∧ t 104 = .sc (.bool (a0.Scan == a0.Next)) ∧ H b1 = some (.cells (c93 a0) 93) ∧ b1 < n) (fun J hJ => ?_) ?_
              · simp [-splice, f1, f96, f98, b_b1, ld_93_5_3, ld_93_3_3]
                exact hJ _ _ _ ⟨by simp [f1], by simp [f96], by simp [-splice, f1, f96, f98, b_b1, ld_93_5_3, ld_93_3_3], b_b1, l_b1⟩
              clear f1 f96 f98 b_b1 l_b1
              rintro t H n ⟨f1, f96, f104, b_b1, l_b1⟩
              refine Stk.on ?_
              exact Stk.ln 0 (by decide) (hJ11 _ _ _ ⟨f1, f96, f104.trans (congrArg (fun q => AV.sc (.bool q)) (by rw [hb11]; rfl)), b_b1, l_b1⟩)
          clear f1 f96 f98 b_b1 l_b1
          rintro t H n ⟨f1, f96, f104, b_b1, l_b1⟩
          refine Stk.run 1 (fun t H n => t 1 = .own b1 0 ∧ t 105 = .sc (.bool (v7 || (a0.Scan == a0.Next))) ∧ H b1 = some (.cells (c93 a0) 93) ∧ b1 < n) (fun J hJ => ?_) ?_
          · simp [-splice, f1, f96, f104, b_b1]
            exact hJ _ _ _ ⟨by simp [f1], by simp [-splice, f1, f96, f104, b_b1], b_b1, l_b1⟩
          clear f1 f96 f104 b_b1 l_b1
          rintro t H n ⟨f1, f105, b_b1, l_b1⟩
          refine Stk.on ?_
          exact Stk.ln 0 (by decide) (hJ10 _ _ _ ⟨f1, f105.trans (congrArg (fun q => AV.sc (.bool q)) (by rw [hb10]; rfl)), b_b1, l_b1⟩)
        · rw [hb10] at f96
          refine Stk.run 9 (fun t H n => t 1 = .own b1 0 ∧ t 105 = .sc (.bool false) ∧ H b1 = some (.cells (c93 a0) 93) ∧ b1 < n) (fun J hJ => ?_) ?_
          · simp [-splice, f1, f4, f96, b_b1]
            exact hJ _ _ _ ⟨by simp [f1], by simp [-splice, f1, f4, f96, b_b1], b_b1, l_b1⟩
          clear f1 f4 f96 b_b1 l_b1
          rintro t H n ⟨f1, f105, b_b1, l_b1⟩
          refine Stk.on ?_
          exact Stk.ln 0 (by decide) (hJ10 _ _ _ ⟨f1, f105.trans (congrArg (fun q => AV.sc (.bool q)) (by rw [hb10]; rfl)), b_b1, l_b1⟩)
      clear f1 f4 f96 b_b1 l_b1
      rintro t H n ⟨f1, f105, b_b1, l_b1⟩
      refine Stk.run 1 (fun t H n => t 1 = .own b1 0 ∧ t 106 = .sc (.bool (a0.On && (v7 || (a0.Scan == a0.Next)))) ∧ H b1 = some (.cells (c93 a0) 93) ∧ b1 < n) (fun J hJ => ?_) ?_
      · simp [-splice, f1, f105, b_b1]
        exact hJ _ _ _ ⟨by simp [f1], by simp [-splice, f1, f105, b_b1], b_b1, l_b1⟩
      clear f1 f105 b_b1 l_b1
      rintro t H n ⟨f1, f106, b_b1, l_b1⟩
      refine Stk.jo 9 (fun t H n => t 115 = .sc (.bool ((a0.On && (v7 || (a0.Scan == a0.Next))) || ((!a0.On) && (a0.Scan == 0))))) (fun J12 hJ12 => ?_) ?_
      · rcases Bool.eq_false_or_eq_true (a0.On && (v7 || (a0.Scan == a0.Next))) with hb12 | hb12
        · rw [hb12] at f106
          refine Stk.run 9 (fun t H n => t 115 = .sc (.bool true)) (fun J hJ => ?_) ?_
          · simp [-splice, f1, f106, b_b1]
            exact hJ _ _ _ (by simp [-splice, f1, f106, b_b1])
          clear f1 f106 b_b1 l_b1
          rintro t H n f115
          refine Stk.on ?_
          exact Stk.ln 0 (by decide) (hJ12 _ _ _ (f115.trans (congrArg (fun q => AV.sc (.bool q)) (by rw [hb12]; rfl))))
        · rw [hb12] at f106
          refine Stk.run 4 (fun t H n => t 1 = .own b1 0 ∧ t 106 = .sc (.bool false) ∧ t 110 = .sc (.bool (!a0.On)) ∧ H b1 = some (.cells (c93 a0) 93) ∧ b1 < n) (fun J hJ => ?_) ?_
          · simp [-splice, f1, f106, b_b1, ld_93_4_4]
            exact hJ _ _ _ ⟨by simp [f1], by simp [f106], by simp [-splice, f1, f106, b_b1, ld_93_4_4], b_b1, l_b1⟩
          clear f1 f106 b_b1 l_b1
          rintro t H n ⟨f1, f106, f110, b_b1, l_b1⟩
          refine Stk.jo 4 (fun t H n => t 106 = .sc (.bool false) ∧ t 114 = .sc (.bool ((!a0.On) && (a0.Scan == 0)))) (fun J13 hJ13 => ?_) ?_
          · rcases Bool.eq_false_or_eq_true (!a0.On) with hb13 | hb13
            · rw [hb13] at f110
              refine Stk.run 4 (fun t H n => t 106 = .sc (.bool false) ∧ t 114 = .sc (.bool (a0.Scan == 0))) (fun J hJ => ?_) ?_
              · simp [-splice, f1, f106, f110, b_b1, ld_93_5_3]
                exact hJ _ _ _ ⟨by simp [f106], by simp [-splice, f1, f106, f110, b_b1, ld_93_5_3]⟩
              clear f1 f106 f110 b_b1 l_b1
              rintro t H n ⟨f106, f114⟩
              refine Stk.on ?_
              exact Stk.ln 0 (by decide) (hJ13 _ _ _ ⟨f106, f114.trans (congrArg (fun q => AV.sc (.bool q)) (by rw [hb13]; rfl))⟩)
            · rw [hb13] at f110
              refine Stk.run 4 (fun t H n => t 106 = .sc (.bool false) ∧ t 114 = .sc (.bool false)) (fun J hJ => ?_) ?_
              · simp [-splice, f1, f106, f110, b_b1]
                exact hJ _ _ _ ⟨by simp [f106], by simp [-splice, f1, f106, f110, b_b1]⟩
              clear f1 f106 f110 b_b1 l_b1
              rintro t H n ⟨f106, f114⟩
              refine Stk.on ?_
              exact Stk.ln 0 (by decide) (hJ13 _ _ _ ⟨f106, f114.trans (congrArg (fun q => AV.sc (.bool q)) (by rw [hb13]; rfl))⟩)
          clear f1 f106 f110 b_b1 l_b1
          rintro t H n ⟨f106, f114⟩
          refine Stk.run 1 (fun t H n => t 115 = .sc (.bool ((!a0.On) && (a0.Scan == 0)))) (fun J hJ => ?_) ?_
          · simp [-splice, f106, f114]
            exact hJ _ _ _ (by simp [-splice, f106, f114])
          clear f106 f114
          rintro t H n f115
          refine Stk.on ?_
          exact Stk.ln 0 (by decide) (hJ12 _ _ _ (f115.trans (congrArg (fun q => AV.sc (.bool q)) (by rw [hb12]; rfl))))
      clear f1 f106 b_b1 l_b1
      rintro t H n f115
      refine Stk.run 1 (fun t H n => t 2 = .sc (.bool ((a0.On && (v7 || (a0.Scan == a0.Next))) || ((!a0.On) && (a0.Scan == 0))))) (fun J hJ => ?_) ?_
      · simp [-splice, f115]
        exact hJ _ _ _ (by simp [-splice, f115])
      clear f115
      rintro t H n f2
      refine Stk.on ?_
      refine Stk.rt ?_
      have hq := Option.some.inj h; subst hq
      exact (hr _ _ _ (.sc (.bool ((a0.On && (v7 || (a0.Scan == a0.Next))) || ((!a0.On) && (a0.Scan == 0))))) ([]) (by simp [f2]) (.inr (.inr (.free (rfl))))).1
theorem ok_heap_unpacked (F : Nat) (a0 : (List Int)) (a1 : Int) (r : (List Int)) (h : heap_unpacked F a0 a1 = some r) : RunF Try.prog T.T 121 [.ssl (encs c40 a0) a0.length false, .sc (.int .i64 a1)] (.ssl (encs c5 r) r.length true) := by
  rw [heap_unpacked] at h
  refine RunF.z Try.func121 rfl rfl rfl rfl rfl (fun C hr => ?_)
  refine Stk.gen (fun t H n => t 0 = .ssl (encs c40 a0) a0.length false ∧ t 1 = .sc (.int .i64 a1)) ⟨by simp, by simp⟩ ?_
  rintro t H n ⟨f0, f1⟩
  refine Stk.sq ?_
  refine Stk.rg ?_
  refine Stk.run 1 (fun t H n => t 0 = .ssl (encs c40 a0) a0.length false ∧ t 1 = .sc (.int .i64 a1)) (fun J hJ => ?_) ?_
  · simp [-splice, f0, f1]
    exact hJ _ _ _ ⟨by simp [f0], by simp [f1]⟩
  clear f0 f1
  rintro t H n ⟨f0, f1⟩
  refine Stk.on ?_
  refine Stk.sq ?_
  refine Stk.rg ?_
  refine Stk.run 1 (fun t H n => t 0 = .ssl (encs c40 a0) a0.length false ∧ t 7 = .sc (.int .i64 a1)) (fun J hJ => ?_) ?_
  · simp [-splice, f0, f1]
    exact hJ _ _ _ ⟨by simp [f0], by simp [-splice, f0, f1]⟩
  clear f0 f1
  rintro t H n ⟨f0, f7⟩
  obtain ⟨x1, hx1, h⟩ := bnd h
  obtain ⟨m1x1, m2x1, m3x1, m4x1⟩ := makM_ok hx1
  refine Stk.om (mop_make (c := c5) (z := 1) T.t35 rfl T.t5 rfl (by decide) rfl 0 f7 rfl m1x1 m2x1 m3x1) (by simp [f0, f7]) rfl (fun t' ht' => ?_)
  refine Stk.gen (fun t H n => ∃ b2, t 0 = .ssl (encs c40 a0) a0.length false ∧ t 8 = .osl b2 0 x1.length (some x1.length) ∧ H b2 = some (.cells (encs c5 x1) 5) ∧ b2 < n) ⟨n, by simp [ht', f0], by rw [← m4x1, List.length_replicate]; simp [ht'], by rw [← m4x1]; exact upd_same _ _ _, Nat.lt_succ_self _⟩ ?_
  clear f0 f7 ht' t'
  rintro t H n ⟨b2, f0, f8, b_b2, l_b2⟩
  refine Stk.run 1 (fun t H n => t 0 = .ssl (encs c40 a0) a0.length false ∧ t 5 = .osl b2 0 x1.length (some x1.length) ∧ H b2 = some (.cells (encs c5 x1) 5) ∧ b2 < n) (fun J hJ => ?_) ?_
  · simp [-splice, f0, f8, b_b2]
    exact hJ _ _ _ ⟨by simp [f0], by simp [-splice, f0, f8, b_b2], b_b2, l_b2⟩
  clear f0 f8 b_b2 l_b2
  rintro t H n ⟨f0, f5, b_b2, l_b2⟩
  refine Stk.on ?_
  refine Stk.sq ?_
  refine Stk.sq ?_
  refine Stk.rg ?_
  refine Stk.run 3 (fun t H n => t 0 = .ssl (encs c40 a0) a0.length false ∧ t 5 = .osl b2 0 x1.length (some x1.length) ∧ t 10 = .sc (.int .i64 (x1.length : Int)) ∧ t 11 = .sc (.int .i64 0) ∧ H b2 = some (.cells (encs c5 x1) 5) ∧ b2 < n) (fun J hJ => ?_) ?_
  · simp [-splice, f0, f5, b_b2]
    exact hJ _ _ _ ⟨by simp [f0], by simp [f5], by simp [-splice, f0, f5, b_b2], by simp [-splice, f0, f5, b_b2], b_b2, l_b2⟩
  clear f0 f5 b_b2 l_b2
  rintro t H n ⟨f0, f5, f10, f11, b_b2, l_b2⟩
  refine Stk.on ?_
  refine Stk.bk ?_
  refine Stk.lo (fun μ t H n => ∃ v3 : Int, ∃ v4 : List Int, heap_unpacked_L0 F a0 x1 μ v3 v4 = some r ∧ t 0 = .ssl (encs c40 a0) a0.length false ∧ t 5 = .osl b2 0 v4.length (some v4.length) ∧ t 10 = .sc (.int .i64 (x1.length : Int)) ∧ t 11 = .sc (.int .i64 v3) ∧ H b2 = some (.cells (encs c5 v4) 5) ∧ b2 < n) F ⟨0, x1, h, f0, f5, f10, f11, b_b2, l_b2⟩ ?_
  clear h f0 f5 f10 f11 b_b2 l_b2
  rintro J1 hJ1 μ t H n ⟨v3, v4, h, f0, f5, f10, f11, b_b2, l_b2⟩
  cases μ with
  | zero => exact absurd h (by simp [heap_unpacked_L0])
  | succ μ =>
  rw [heap_unpacked_L0] at h
  refine Stk.sq ?_
  refine Stk.rg ?_
  refine Stk.run 1 (fun t H n => t 0 = .ssl (encs c40 a0) a0.length false ∧ t 5 = .osl b2 0 v4.length (some v4.length) ∧ t 10 = .sc (.int .i64 (x1.length : Int)) ∧ t 11 = .sc (.int .i64 v3) ∧ t 12 = .sc (.bool (decide (v3 < (x1.length : Int)))) ∧ H b2 = some (.cells (encs c5 v4) 5) ∧ b2 < n) (fun J hJ => ?_) ?_
  · simp [-splice, f0, f5, f10, f11, b_b2]
    exact hJ _ _ _ ⟨by simp [f0], by simp [f5], by simp [f10], by simp [f11], by simp [-splice, f0, f5, f10, f11, b_b2], b_b2, l_b2⟩
  clear f0 f5 f10 f11 b_b2 l_b2
  rintro t H n ⟨f0, f5, f10, f11, f12, b_b2, l_b2⟩
  refine Stk.on ?_
  refine Stk.sq ?_
  refine Stk.cond (decide (v3 < (x1.length : Int))) (by exact f12) (fun hb7 => ?_) (fun hb7 => ?_)
  · have h := cT hb7 h
    refine Stk.sk ?_
    refine Stk.sq ?_
    refine Stk.bk ?_
    refine Stk.sq ?_
    refine Stk.rg ?_
    refine Stk.run 2 (fun t H n => t 0 = .ssl (encs c40 a0) a0.length false ∧ t 5 = .osl b2 0 v4.length (some v4.length) ∧ t 6 = .sc (.int .i64 v3) ∧ t 10 = .sc (.int .i64 (x1.length : Int)) ∧ t 11 = .sc (.int .i64 v3) ∧ H b2 = some (.cells (encs c5 v4) 5) ∧ b2 < n) (fun J hJ => ?_) ?_
    · simp [-splice, f0, f5, f10, f11, f12, b_b2]
      exact hJ _ _ _ ⟨by simp [f0], by simp [f5], by simp [-splice, f0, f5, f10, f11, f12, b_b2], by simp [f10], by simp [f11], b_b2, l_b2⟩
    clear f0 f5 f10 f11 f12 b_b2 l_b2
    rintro t H n ⟨f0, f5, f6, f10, f11, b_b2, l_b2⟩
    refine Stk.on ?_
    refine Stk.rg ?_
    obtain ⟨x8, hx8, h⟩ := bnd h
    obtain ⟨i0x8, i1x8, i2x8, _⟩ := idx_ok hx8
    have ex8_0_40 : partOf T.T 40 (encs c40 a0) ((IntKind.i64.wrap (v3.tdiv 8)).toNat) = some (.sc (.int .u64 x8)) := by
        have e0 := part_elem0 (e := c40) (z := 1) (T := T.T) (ty := 40) T.t40 (by decide) (by decide) hx8 0 (by decide)
        (try simp only [Nat.mul_one, Nat.add_zero] at e0)
        exact e0.trans rfl
    obtain ⟨x9, hx9, h⟩ := bnd h
    obtain ⟨nx9, ex9⟩ := shrM_ok hx9
    obtain ⟨x10, hx10, h⟩ := bnd h
    obtain ⟨i0x10, i1x10, i2x10, _⟩ := idx_ok hx10
    refine Stk.run 13 (fun t H n => t 0 = .ssl (encs c40 a0) a0.length false ∧ t 5 = .osl b2 0 v4.length (some v4.length) ∧ t 10 = .sc (.int .i64 (x1.length : Int)) ∧ t 11 = .sc (.int .i64 v3) ∧ t 25 = .sc (.int .u8 (IntKind.u8.wrap x9)) ∧ t 26 = .own b2 (v3.toNat) ∧ H b2 = some (.cells (encs c5 v4) 5) ∧ b2 < n) (fun J hJ => ?_) ?_
    · simp [-splice, f0, f5, f6, f10, f11, b_b2, i0x8, i1x8, pd40, ex8_0_40, nx9, ex9, i0x10, i1x10]
      exact hJ _ _ _ ⟨by simp [f0], by simp [f5], by simp [f10], by simp [f11], by simp [-splice, f0, f5, f6, f10, f11, b_b2, i0x8, i1x8, pd40, ex8_0_40, nx9, ex9, i0x10, i1x10], by simp [-splice, f0, f5, f6, f10, f11, b_b2, i0x8, i1x8, pd40, ex8_0_40, nx9, ex9, i0x10, i1x10], b_b2, l_b2⟩
    clear f0 f5 f6 f10 f11 b_b2 l_b2
    rintro t H n ⟨f0, f5, f10, f11, f25, f26, b_b2, l_b2⟩
    have sp : splice (encs c5 v4) (v3.toNat) ([.sc (.int .u8 (IntKind.u8.wrap x9))]) = encs c5 (v4.set v3.toNat (IntKind.u8.wrap x9)) := by
      have e0 := splice_elem0 (e := c5) (z := 1) hx10 (IntKind.u8.wrap x9)
      simpa using e0
    refine Stk.om (mop_store (z := 1) rfl f26 b_b2 f25 rfl (by rw [length_encs (e := c5)]; omega) rfl sp) (by simp [f0, f5, f10, f11, f25, f26]) rfl (fun t' ht' => ?_)
    refine Stk.gen (fun t H n => t 0 = .ssl (encs c40 a0) a0.length false ∧ t 5 = .osl b2 0 (v4.set v3.toNat (IntKind.u8.wrap x9)).length (some (v4.set v3.toNat (IntKind.u8.wrap x9)).length) ∧ t 10 = .sc (.int .i64 (x1.length : Int)) ∧ t 11 = .sc (.int .i64 v3) ∧ H b2 = some (.cells (encs c5 (v4.set v3.toNat (IntKind.u8.wrap x9))) 5) ∧ b2 < n) ⟨by simp [ht', f0], by simp [-splice, ht', f0, f5, f10, f11, f25, f26], by simp [ht', f10], by simp [ht', f11], upd_same _ _ _, l_b2⟩ ?_
    clear f0 f5 f10 f11 f25 f26 b_b2 l_b2 sp ht' t'
    rintro t H n ⟨f0, f5, f10, f11, b_b2, l_b2⟩
    refine Stk.on ?_
    refine Stk.bn ?_
    refine Stk.rg ?_
    refine Stk.run 2 (fun t H n => t 0 = .ssl (encs c40 a0) a0.length false ∧ t 5 = .osl b2 0 (v4.set v3.toNat (IntKind.u8.wrap x9)).length (some (v4.set v3.toNat (IntKind.u8.wrap x9)).length) ∧ t 10 = .sc (.int .i64 (x1.length : Int)) ∧ t 11 = .sc (.int .i64 (IntKind.i64.wrap (v3 + 1))) ∧ H b2 = some (.cells (encs c5 (v4.set v3.toNat (IntKind.u8.wrap x9))) 5) ∧ b2 < n) (fun J hJ => ?_) ?_
    · simp [-splice, f0, f5, f10, f11, b_b2]
      exact hJ _ _ _ ⟨by simp [f0], by simp [f5], by simp [f10], by simp [-splice, f0, f5, f10, f11, b_b2], b_b2, l_b2⟩
    clear f0 f5 f10 f11 b_b2 l_b2
    rintro t H n ⟨f0, f5, f10, f11, b_b2, l_b2⟩
    refine Stk.on ?_
    exact Stk.ln μ (Nat.lt_succ_self _) (hJ1 _ _ _ _ ⟨(IntKind.i64.wrap (v3 + 1)), (v4.set v3.toNat (IntKind.u8.wrap x9)), h, f0, f5, f10, f11, b_b2, l_b2⟩)
  · have h := cF hb7 h
    refine Stk.ex rfl ?_
    refine Stk.sq ?_
    refine Stk.rg ?_
    refine Stk.run 2 (fun t H n => t 4 = .osl b2 0 v4.length (some v4.length) ∧ H b2 = some (.cells (encs c5 v4) 5) ∧ b2 < n) (fun J hJ => ?_) ?_
    · simp [-splice, f0, f5, f10, f11, f12, b_b2]
      exact hJ _ _ _ ⟨by simp [-splice, f0, f5, f10, f11, f12, b_b2], b_b2, l_b2⟩
    clear f0 f5 f10 f11 f12 b_b2 l_b2
    rintro t H n ⟨f4, b_b2, l_b2⟩
    refine Stk.on ?_
    refine Stk.rt ?_
    have hq := Option.some.inj h; subst hq
    exact (hr _ _ _ (.osl b2 0 v4.length (some v4.length)) ([b2]) (by simp [f4, b_b2]) (.inr (.inr (view_rowF fr5 b_b2 (by simp))))).1
theorem ok_slices_Clone_uint64_uint64 (F : Nat) (a0 : (List Int)) (r : (List Int)) (h : slices_Clone_uint64_uint64 F a0 = some r) : RunF Try.prog T.T 85 [.ssl (encs c40 a0) a0.length false] (.ssl (encs c40 r) r.length false) := by
  rw [slices_Clone_uint64_uint64] at h
  obtain ⟨r1, r2, r3⟩ := appM_ok h
  simp only [List.nil_append] at r3
  subst r3
  cases a0 with
  | nil =>
    refine RunF.nilArg [] [] (fun a ha => ?_)
    rcases ha with rfl | rfl
    · refine RunF.z Try.func85 rfl rfl rfl rfl rfl (fun C hr => ?_)
      refine evZ_sound (f := 19) ?_
      simp [Op.maxDepth]
      refine Stk.cond true ?_ (fun _ => ?_) (fun hb => by cases hb)
      · simp
      refine evZ_sound (f := 19) ?_
      simp
      exact (hr _ _ _ (.sc (.slice none 0 0)) [] (by simp) (.inr (.inr .nilS))).1
    · refine RunF.z Try.func85 rfl rfl rfl rfl rfl (fun C hr => ?_)
      refine evZ_sound (f := 19) ?_
      simp [Op.maxDepth]
      refine Stk.cond false ?_ (fun hb => by cases hb) (fun _ => ?_)
      · simp
      refine evZ_sound (f := 19) ?_
      simp [appendAV, fillAV, roomMax]
      exact (hr _ _ _ (.osl 0 0 0 (some 0)) [0] (by simp) (.inr (.inr (.oslF (cs := []) (ty := 40) 0 (by simp) (by simp) .nil)))).1
  | cons x xs =>
    refine RunF.z Try.func85 rfl rfl rfl rfl rfl (fun C hr => ?_)
    refine evZ_sound (f := 19) ?_
    simp [Op.maxDepth]
    refine Stk.cond false ?_ (fun hb => by cases hb) (fun _ => ?_)
    · simp
    obtain ⟨o', c', H9, n9, e9, w9, le9, fr9, kp9⟩ := append_ownC (e := c40) (z := 1) (st := 39) T.t39 rfl T.t40 rfl (by decide) rfl (by decide) (H := upd (fun _ => none) 0 (some (.cells (encs c40 ([] : (List Int))) 40))) (n := 1) (ownC_row (xs := ([] : (List Int))) (b := 0) (upd_same _ _ _)) (fun i hi => by cases hi; omega) (y := .ssl (encs c40 (x :: xs)) (x :: xs).length false) (x :: xs) elems_ssl (all_encs ok40 _) r1 r2
    simp only [List.nil_append] at e9 w9
    refine Stk.sk ?_
    refine Stk.sq ?_
    refine Stk.rg ?_
    refine Stk.om (mop_buildN (c := c40) (z := 1) T.t39 rfl T.t40 rfl (by decide) rfl (by decide) [] rfl .nil) rfl rfl (fun t' ht' => ?_)
    refine Stk.run 1 (fun t H n => t 5 = .osl 0 0 0 (some 0) ∧ t 6 = .ssl (encs c40 (x :: xs)) (x :: xs).length false ∧ H = upd (fun _ => none) 0 (some (.cells (encs c40 ([] : (List Int))) 40)) ∧ n = 1) (fun J hJ => ?_) ?_
    · simp [ht']
      exact hJ _ _ _ ⟨by simp [ht'], by simp [ht'], rfl, rfl⟩
    clear ht' t'
    rintro t H n ⟨f5, f6, rfl, rfl⟩
    refine Stk.om ((mop_append T.t39 rfl).trans (by rw [show ev t (.tmp 5) = t 5 from rfl, f5]; rw [show ev t (.tmp 6) = t 6 from rfl, f6]; exact e9)) rfl rfl (fun t' ht' => ?_)
    refine Stk.run 1 (fun t H n => t 2 = slc o' (x :: xs).length c' ∧ OwnC H 40 1 c40 o' c' (x :: xs)) (fun J hJ => ?_) ?_
    · simp [ht']
      exact hJ _ _ _ ⟨by simp [ht'], w9⟩
    rintro t H n ⟨f2, b2⟩
    refine Stk.on ?_
    refine Stk.rt ?_
    exact (hr _ _ _ (slc o' (x :: xs).length c') o'.toList (by simp [f2]) (.inr (.inr (view_ownC fr40 b2 (fun i hi => by simp [hi]))))).1
end Go.Proofs.Ytfflojbgikfbmaa.M
