/-
  The functions come to them.
-/
import Derived.Test.YtfflojbgikfbmaaHrM
import Derived.Test.YtfflojbgikfbmaaHrW0
import Derived.Test.YtfflojbgikfbmaaHrW1
namespace Go.Proofs.Ytfflojbgikfbmaa.M
open Go.Proofs.YtfflojbgikfbmaaW.Ah Go.Proofs.Ytfflojbgikfbmaa
set_option linter.unusedVariables false
set_option linter.unusedSimpArgs false
set_option maxRecDepth 8000
attribute [local simp] T.t3 T.t4 T.t34 T.t39 T.t40 T.t70 T.t93 List.range List.range.loop
attribute [-simp] appendAV fillAV
theorem ok_R16_Fit (F : Nat) (a0 : api_Heap) (r : Bool) (h : R16_Fit F a0 = some r) : RunF Try.prog T.T 62 [.agg (c93 a0)] (.sc (.bool r)) := by
  rw [R16_Fit] at h
  refine RunF.z Try.func62 rfl rfl rfl rfl rfl (fun C hr => ?_)
  refine Stk.gen (fun t H n => t 0 = .agg (c93 a0)) (by simp) ?_
  rintro t H n f0
  refine Stk.sq ?_
  refine Stk.rg ?_
  refine Stk.om (mop_box T.t93 (cs := c93 a0) (by show partOk (t 0) = true; rw [f0]; rfl) (by show cellsOf (t 0) = _; rw [f0]; rfl)) (by simp [f0]) rfl (fun t' ht' => ?_)
  refine Stk.gen (fun t H n => ∃ b1, t 1 = .own b1 0 ∧ H b1 = some (.cells (c93 a0) 93) ∧ b1 < n) ⟨n, by simp [ht'], upd_same _ _ _, Nat.lt_succ_self _⟩ ?_
  clear f0 ht' t'
  rintro t H n ⟨b1, f1, b_b1, l_b1⟩
  refine Stk.run 1 (fun t H n => t 1 = .own b1 0 ∧ H b1 = some (.cells (c93 a0) 93) ∧ b1 < n) (fun J hJ => ?_) ?_
  · simp [-splice, f1, b_b1]
    exact hJ _ _ _ ⟨by simp [f1], b_b1, l_b1⟩
  clear f1 b_b1 l_b1
  rintro t H n ⟨f1, b_b1, l_b1⟩
  refine Stk.on ?_
  refine Stk.sq ?_
  refine Stk.sq ?_
  refine Stk.rg ?_
  refine Stk.run 4 (fun t H n => t 1 = .own b1 0 ∧ t 11 = .sc (.bool (decide (a0.Half < 16))) ∧ H b1 = some (.cells (c93 a0) 93) ∧ b1 < n) (fun J hJ => ?_) ?_
  · simp [-splice, f1, b_b1, ld_93_1_3]
    exact hJ _ _ _ ⟨by simp [f1], by simp [-splice, f1, b_b1, ld_93_1_3], b_b1, l_b1⟩
  clear f1 b_b1 l_b1
  rintro t H n ⟨f1, f11, b_b1, l_b1⟩
  refine Stk.jo 4 (fun t H n => t 1 = .own b1 0 ∧ t 15 = .sc (.bool ((decide (a0.Half < 16)) || (decide (16384 < a0.Half)))) ∧ H b1 = some (.cells (c93 a0) 93) ∧ b1 < n) (fun J1 hJ1 => ?_) ?_
  · rcases Bool.eq_false_or_eq_true (decide (a0.Half < 16)) with hb1 | hb1
    · rw [hb1] at f11
      refine Stk.run 4 (fun t H n => t 1 = .own b1 0 ∧ t 15 = .sc (.bool true) ∧ H b1 = some (.cells (c93 a0) 93) ∧ b1 < n) (fun J hJ => ?_) ?_
      · simp [-splice, f1, f11, b_b1]
        exact hJ _ _ _ ⟨by simp [f1], by simp [-splice, f1, f11, b_b1], b_b1, l_b1⟩
      clear f1 f11 b_b1 l_b1
      rintro t H n ⟨f1, f15, b_b1, l_b1⟩
      refine Stk.on ?_
      exact Stk.ln 0 (by decide) (hJ1 _ _ _ ⟨f1, f15.trans (congrArg (fun q => AV.sc (.bool q)) (by rw [hb1]; rfl)), b_b1, l_b1⟩)
    · rw [hb1] at f11
      refine Stk.run 4 (fun t H n => t 1 = .own b1 0 ∧ t 15 = .sc (.bool (decide (16384 < a0.Half))) ∧ H b1 = some (.cells (c93 a0) 93) ∧ b1 < n) (fun J hJ => ?_) ?_
      · simp [-splice, f1, f11, b_b1, ld_93_1_3]
        exact hJ _ _ _ ⟨by simp [f1], by simp [-splice, f1, f11, b_b1, ld_93_1_3], b_b1, l_b1⟩
      clear f1 f11 b_b1 l_b1
      rintro t H n ⟨f1, f15, b_b1, l_b1⟩
      refine Stk.on ?_
      exact Stk.ln 0 (by decide) (hJ1 _ _ _ ⟨f1, f15.trans (congrArg (fun q => AV.sc (.bool q)) (by rw [hb1]; rfl)), b_b1, l_b1⟩)
  clear f1 f11 b_b1 l_b1
  rintro t H n ⟨f1, f15, b_b1, l_b1⟩
  refine Stk.run 1 (fun t H n => t 1 = .own b1 0 ∧ t 16 = .sc (.bool ((decide (a0.Half < 16)) || (decide (16384 < a0.Half)))) ∧ H b1 = some (.cells (c93 a0) 93) ∧ b1 < n) (fun J hJ => ?_) ?_
  · simp [-splice, f1, f15, b_b1]
    exact hJ _ _ _ ⟨by simp [f1], by simp [-splice, f1, f15, b_b1], b_b1, l_b1⟩
  clear f1 f15 b_b1 l_b1
  rintro t H n ⟨f1, f16, b_b1, l_b1⟩
  refine Stk.jo 9 (fun t H n => t 1 = .own b1 0 ∧ t 25 = .sc (.bool (((decide (a0.Half < 16)) || (decide (16384 < a0.Half))) || ((a0.Words.length : Int) != (IntKind.i64.wrap ((IntKind.i64.wrap (2 * a0.Half)) + 1))))) ∧ H b1 = some (.cells (c93 a0) 93) ∧ b1 < n) (fun J2 hJ2 => ?_) ?_
  · rcases Bool.eq_false_or_eq_true ((decide (a0.Half < 16)) || (decide (16384 < a0.Half))) with hb2 | hb2
    · rw [hb2] at f16
      refine Stk.run 9 (fun t H n => t 1 = .own b1 0 ∧ t 25 = .sc (.bool true) ∧ H b1 = some (.cells (c93 a0) 93) ∧ b1 < n) (fun J hJ => ?_) ?_
      · simp [-splice, f1, f16, b_b1]
        exact hJ _ _ _ ⟨by simp [f1], by simp [-splice, f1, f16, b_b1], b_b1, l_b1⟩
      clear f1 f16 b_b1 l_b1
      rintro t H n ⟨f1, f25, b_b1, l_b1⟩
      refine Stk.on ?_
      exact Stk.ln 0 (by decide) (hJ2 _ _ _ ⟨f1, f25.trans (congrArg (fun q => AV.sc (.bool q)) (by rw [hb2]; rfl)), b_b1, l_b1⟩)
    · rw [hb2] at f16
      refine Stk.run 9 (fun t H n => t 1 = .own b1 0 ∧ t 25 = .sc (.bool ((a0.Words.length : Int) != (IntKind.i64.wrap ((IntKind.i64.wrap (2 * a0.Half)) + 1)))) ∧ H b1 = some (.cells (c93 a0) 93) ∧ b1 < n) (fun J hJ => ?_) ?_
      · simp [-splice, f1, f16, b_b1, ld_93_0_39, ld_93_1_3]
        exact hJ _ _ _ ⟨by simp [f1], by simp [-splice, f1, f16, b_b1, ld_93_0_39, ld_93_1_3], b_b1, l_b1⟩
      clear f1 f16 b_b1 l_b1
      rintro t H n ⟨f1, f25, b_b1, l_b1⟩
      refine Stk.on ?_
      exact Stk.ln 0 (by decide) (hJ2 _ _ _ ⟨f1, f25.trans (congrArg (fun q => AV.sc (.bool q)) (by rw [hb2]; rfl)), b_b1, l_b1⟩)
  clear f1 f16 b_b1 l_b1
  rintro t H n ⟨f1, f25, b_b1, l_b1⟩
  refine Stk.run 1 (fun t H n => t 1 = .own b1 0 ∧ t 26 = .sc (.bool (((decide (a0.Half < 16)) || (decide (16384 < a0.Half))) || ((a0.Words.length : Int) != (IntKind.i64.wrap ((IntKind.i64.wrap (2 * a0.Half)) + 1))))) ∧ H b1 = some (.cells (c93 a0) 93) ∧ b1 < n) (fun J hJ => ?_) ?_
  · simp [-splice, f1, f25, b_b1]
    exact hJ _ _ _ ⟨by simp [f1], by simp [-splice, f1, f25, b_b1], b_b1, l_b1⟩
  clear f1 f25 b_b1 l_b1
  rintro t H n ⟨f1, f26, b_b1, l_b1⟩
  obtain ⟨K3, hK3, h⟩ := jnd h
  refine Stk.jo 6 (fun t H n => ∃ v2 : Bool, K3 v2 = some r ∧ t 1 = .own b1 0 ∧ t 32 = .sc (.bool v2) ∧ H b1 = some (.cells (c93 a0) 93) ∧ b1 < n) (fun J3 hJ3 => ?_) ?_
  · rcases Bool.eq_false_or_eq_true (((decide (a0.Half < 16)) || (decide (16384 < a0.Half))) || ((a0.Words.length : Int) != (IntKind.i64.wrap ((IntKind.i64.wrap (2 * a0.Half)) + 1)))) with hb3 | hb3
    · rw [hb3] at f26
      replace h := cT hb3 h
      refine Stk.run 6 (fun t H n => t 1 = .own b1 0 ∧ t 32 = .sc (.bool true) ∧ H b1 = some (.cells (c93 a0) 93) ∧ b1 < n) (fun J hJ => ?_) ?_
      · simp [-splice, f1, f26, b_b1]
        exact hJ _ _ _ ⟨by simp [f1], by simp [-splice, f1, f26, b_b1], b_b1, l_b1⟩
      clear f1 f26 b_b1 l_b1
      rintro t H n ⟨f1, f32, b_b1, l_b1⟩
      refine Stk.on ?_
      exact Stk.ln 0 (by decide) (hJ3 _ _ _ ⟨true, h, f1, f32, b_b1, l_b1⟩)
    · rw [hb3] at f26
      replace h := cF hb3 h
      obtain ⟨x3, hx3, h⟩ := bnd h
      obtain ⟨i0x3, i1x3, i2x3, _⟩ := idx_ok hx3
      have i5x3 : 0 < a0.Words.length := by omega
      have i6x3 : ¬ a0.Words = [] := List.ne_nil_of_length_pos i5x3
      have ex3_0_40 : partOf T.T 40 (encs c40 a0.Words) 0 = some (.sc (.int .u64 x3)) := by
          have e0 := part_elem0 (e := c40) (z := 1) (T := T.T) (ty := 40) T.t40 (by decide) (by decide) hx3 0 (by decide)
          (try simp only [Nat.mul_one, Nat.add_zero, Int.toNat_ofNat, Nat.zero_mul, Nat.zero_add] at e0)
          exact e0.trans rfl
      refine Stk.run 6 (fun t H n => t 1 = .own b1 0 ∧ t 32 = .sc (.bool (x3 != 0)) ∧ H b1 = some (.cells (c93 a0) 93) ∧ b1 < n) (fun J hJ => ?_) ?_
      · simp [-splice, f1, f26, b_b1, ld_93_0_39, i0x3, i1x3, i5x3, i6x3, pd40, ex3_0_40]
        exact hJ _ _ _ ⟨by simp [f1], by simp [-splice, f1, f26, b_b1, ld_93_0_39, i0x3, i1x3, i5x3, i6x3, pd40, ex3_0_40], b_b1, l_b1⟩
      clear f1 f26 b_b1 l_b1
      rintro t H n ⟨f1, f32, b_b1, l_b1⟩
      refine Stk.on ?_
      exact Stk.ln 0 (by decide) (hJ3 _ _ _ ⟨(x3 != 0), h, f1, f32, b_b1, l_b1⟩)
  clear h f1 f26 b_b1 l_b1
  rintro t H n ⟨v2, h, f1, f32, b_b1, l_b1⟩
  subst hK3
  refine Stk.on ?_
  refine Stk.cond v2 (by exact f32) (fun hb4 => ?_) (fun hb4 => ?_)
  · have h := cT hb4 h
    refine Stk.sq ?_
    refine Stk.rg ?_
    refine Stk.run 1 (fun t H n => t 2 = .sc (.bool false)) (fun J hJ => ?_) ?_
    · simp [-splice, f1, f32, b_b1]
      exact hJ _ _ _ (by simp [-splice, f1, f32, b_b1])
    clear f1 f32 b_b1 l_b1
    rintro t H n f2
    refine Stk.on ?_
    refine Stk.rt ?_
    have hq := Option.some.inj h; subst hq
    exact (hr _ _ _ (.sc (.bool false)) ([]) (by simp [f2]) (.inr (.inr (.free (rfl))))).1
  · have h := cF hb4 h
    refine Stk.sk ?_
    refine Stk.sq ?_
    refine Stk.rg ?_
    refine Stk.run 1 (fun t H n => t 1 = .own b1 0 ∧ t 33 = .agg (c93 a0) ∧ H b1 = some (.cells (c93 a0) 93) ∧ b1 < n) (fun J hJ => ?_) ?_
    · simp [-splice, f1, f32, b_b1, ld_93_0_93]
      exact hJ _ _ _ ⟨by simp [f1], by simp [-splice, f1, f32, b_b1, ld_93_0_93], b_b1, l_b1⟩
    clear f1 f32 b_b1 l_b1
    rintro t H n ⟨f1, f33, b_b1, l_b1⟩
    obtain ⟨x5, hx5, h⟩ := bnd h
    refine Stk.cv (g := 119) (args := [.agg (c93 a0)]) (args' := [.agg (c93 a0)]) (v := .sc (.int .i64 x5)) [] (ok_R16_first F _ _ hx5) (by simp [f1, f33]) rfl rfl (by simp [f1, f33]) (.cons (.free (fr93 _)) (.nil)) (.inl ⟨rfl, rfl⟩) (fun t' ht' => ?_)
    refine Stk.gen (fun t H n => t 1 = .own b1 0 ∧ t 34 = .sc (.int .i64 x5) ∧ H b1 = some (.cells (c93 a0) 93) ∧ b1 < n) ⟨by simp [ht', f1], by simp [ht'], b_b1, l_b1⟩ ?_
    clear f1 f33 b_b1 l_b1 ht' t'
    rintro t H n ⟨f1, f34, b_b1, l_b1⟩
    refine Stk.run 1 (fun t H n => t 1 = .own b1 0 ∧ t 3 = .sc (.int .i64 x5) ∧ H b1 = some (.cells (c93 a0) 93) ∧ b1 < n) (fun J hJ => ?_) ?_
    · simp [-splice, f1, f34, b_b1]
      exact hJ _ _ _ ⟨by simp [f1], by simp [-splice, f1, f34, b_b1], b_b1, l_b1⟩
    clear f1 f34 b_b1 l_b1
    rintro t H n ⟨f1, f3, b_b1, l_b1⟩
    refine Stk.on ?_
    refine Stk.sq ?_
    refine Stk.sq ?_
    refine Stk.rg ?_
    refine Stk.run 5 (fun t H n => t 1 = .own b1 0 ∧ t 3 = .sc (.int .i64 x5) ∧ t 39 = .sc (.bool (decide (a0.Next < x5))) ∧ H b1 = some (.cells (c93 a0) 93) ∧ b1 < n) (fun J hJ => ?_) ?_
    · simp [-splice, f1, f3, b_b1, ld_93_3_3]
      exact hJ _ _ _ ⟨by simp [f1], by simp [f3], by simp [-splice, f1, f3, b_b1, ld_93_3_3], b_b1, l_b1⟩
    clear f1 f3 b_b1 l_b1
    rintro t H n ⟨f1, f3, f39, b_b1, l_b1⟩
    refine Stk.jo 8 (fun t H n => t 1 = .own b1 0 ∧ t 3 = .sc (.int .i64 x5) ∧ t 47 = .sc (.bool ((decide (a0.Next < x5)) || (decide ((IntKind.i64.wrap (x5 + a0.Half)) < a0.Next)))) ∧ H b1 = some (.cells (c93 a0) 93) ∧ b1 < n) (fun J4 hJ4 => ?_) ?_
    · rcases Bool.eq_false_or_eq_true (decide (a0.Next < x5)) with hb4 | hb4
      · rw [hb4] at f39
        refine Stk.run 8 (fun t H n => t 1 = .own b1 0 ∧ t 3 = .sc (.int .i64 x5) ∧ t 47 = .sc (.bool true) ∧ H b1 = some (.cells (c93 a0) 93) ∧ b1 < n) (fun J hJ => ?_) ?_
        · simp [-splice, f1, f3, f39, b_b1]
          exact hJ _ _ _ ⟨by simp [f1], by simp [f3], by simp [-splice, f1, f3, f39, b_b1], b_b1, l_b1⟩
        clear f1 f3 f39 b_b1 l_b1
        rintro t H n ⟨f1, f3, f47, b_b1, l_b1⟩
        refine Stk.on ?_
        exact Stk.ln 0 (by decide) (hJ4 _ _ _ ⟨f1, f3, f47.trans (congrArg (fun q => AV.sc (.bool q)) (by rw [hb4]; rfl)), b_b1, l_b1⟩)
      · rw [hb4] at f39
        refine Stk.run 8 (fun t H n => t 1 = .own b1 0 ∧ t 3 = .sc (.int .i64 x5) ∧ t 47 = .sc (.bool (decide ((IntKind.i64.wrap (x5 + a0.Half)) < a0.Next))) ∧ H b1 = some (.cells (c93 a0) 93) ∧ b1 < n) (fun J hJ => ?_) ?_
        · simp [-splice, f1, f3, f39, b_b1, ld_93_3_3, ld_93_1_3]
          exact hJ _ _ _ ⟨by simp [f1], by simp [f3], by simp [-splice, f1, f3, f39, b_b1, ld_93_3_3, ld_93_1_3], b_b1, l_b1⟩
        clear f1 f3 f39 b_b1 l_b1
        rintro t H n ⟨f1, f3, f47, b_b1, l_b1⟩
        refine Stk.on ?_
        exact Stk.ln 0 (by decide) (hJ4 _ _ _ ⟨f1, f3, f47.trans (congrArg (fun q => AV.sc (.bool q)) (by rw [hb4]; rfl)), b_b1, l_b1⟩)
    clear f1 f3 f39 b_b1 l_b1
    rintro t H n ⟨f1, f3, f47, b_b1, l_b1⟩
    refine Stk.on ?_
    refine Stk.cond ((decide (a0.Next < x5)) || (decide ((IntKind.i64.wrap (x5 + a0.Half)) < a0.Next))) (by exact f47) (fun hb6 => ?_) (fun hb6 => ?_)
    · have h := cT hb6 h
      refine Stk.sq ?_
      refine Stk.rg ?_
      refine Stk.run 1 (fun t H n => t 2 = .sc (.bool false)) (fun J hJ => ?_) ?_
      · simp [-splice, f1, f3, f47, b_b1]
        exact hJ _ _ _ (by simp [-splice, f1, f3, f47, b_b1])
      clear f1 f3 f47 b_b1 l_b1
      rintro t H n f2
      refine Stk.on ?_
      refine Stk.rt ?_
      have hq := Option.some.inj h; subst hq
      exact (hr _ _ _ (.sc (.bool false)) ([]) (by simp [f2]) (.inr (.inr (.free (rfl))))).1
    · have h := cF hb6 h
      refine Stk.sk ?_
      refine Stk.sq ?_
      refine Stk.rg ?_
      refine Stk.run 6 (fun t H n => t 1 = .own b1 0 ∧ t 3 = .sc (.int .i64 x5) ∧ t 4 = .sc (.bool (a0.Scan == a0.Next)) ∧ H b1 = some (.cells (c93 a0) 93) ∧ b1 < n) (fun J hJ => ?_) ?_
      · simp [-splice, f1, f3, f47, b_b1, ld_93_5_3, ld_93_3_3]
        exact hJ _ _ _ ⟨by simp [f1], by simp [f3], by simp [-splice, f1, f3, f47, b_b1, ld_93_5_3, ld_93_3_3], b_b1, l_b1⟩
      clear f1 f3 f47 b_b1 l_b1
      rintro t H n ⟨f1, f3, f4, b_b1, l_b1⟩
      refine Stk.on ?_
      refine Stk.sq ?_
      refine Stk.sq ?_
      refine Stk.rg ?_
      refine Stk.run 2 (fun t H n => t 1 = .own b1 0 ∧ t 4 = .sc (.bool (a0.Scan == a0.Next)) ∧ t 5 = .sc (.int .i64 x5) ∧ H b1 = some (.cells (c93 a0) 93) ∧ b1 < n) (fun J hJ => ?_) ?_
      · simp [-splice, f1, f3, f4, b_b1]
        exact hJ _ _ _ ⟨by simp [f1], by simp [f4], by simp [-splice, f1, f3, f4, b_b1], b_b1, l_b1⟩
      clear f1 f3 f4 b_b1 l_b1
      rintro t H n ⟨f1, f4, f5, b_b1, l_b1⟩
      refine Stk.on ?_
      obtain ⟨K5, hK5, h⟩ := jnd h
      refine Stk.jn (fun t H n => ∃ v7 : Bool, K5 v7 = some r ∧ t 1 = .own b1 0 ∧ t 4 = .sc (.bool v7) ∧ H b1 = some (.cells (c93 a0) 93) ∧ b1 < n) trivial (fun J5 hJ5 => ?_) ?_
      · skip
        refine Stk.bk ?_
        refine Stk.lo (fun μ t H n => ∃ v8 : Bool, ∃ v9 : Int, R16_Fit_L0 F a0 K5 μ v8 v9 = some r ∧ t 1 = .own b1 0 ∧ t 4 = .sc (.bool v8) ∧ t 5 = .sc (.int .i64 v9) ∧ H b1 = some (.cells (c93 a0) 93) ∧ b1 < n) F ⟨(a0.Scan == a0.Next), x5, h, f1, f4, f5, b_b1, l_b1⟩ ?_
        clear h f1 f4 f5 b_b1 l_b1
        rintro J6 hJ6 μ t H n ⟨v8, v9, h, f1, f4, f5, b_b1, l_b1⟩
        cases μ with
        | zero => exact absurd h (by simp [R16_Fit_L0])
        | succ μ =>
        rw [R16_Fit_L0] at h
        refine Stk.sq ?_
        refine Stk.sq ?_
        refine Stk.rg ?_
        refine Stk.run 4 (fun t H n => t 1 = .own b1 0 ∧ t 4 = .sc (.bool v8) ∧ t 5 = .sc (.int .i64 v9) ∧ t 57 = .sc (.bool (decide (v9 < a0.Next))) ∧ H b1 = some (.cells (c93 a0) 93) ∧ b1 < n) (fun J hJ => ?_) ?_
        · simp [-splice, f1, f4, f5, b_b1, ld_93_3_3]
          exact hJ _ _ _ ⟨by simp [f1], by simp [f4], by simp [f5], by simp [-splice, f1, f4, f5, b_b1, ld_93_3_3], b_b1, l_b1⟩
        clear f1 f4 f5 b_b1 l_b1
        rintro t H n ⟨f1, f4, f5, f57, b_b1, l_b1⟩
        refine Stk.on ?_
        refine Stk.cond (decide (v9 < a0.Next)) (by exact f57) (fun hb12 => ?_) (fun hb12 => ?_)
        · have h := cT hb12 h
          refine Stk.sk ?_
          refine Stk.bk ?_
          refine Stk.sq ?_
          refine Stk.rg ?_
          obtain ⟨x13, hx13, h⟩ := bnd h
          obtain ⟨i0x13, i1x13, i2x13, _⟩ := idx_ok hx13
          have ex13_0_40 : partOf T.T 40 (encs c40 a0.Words) (v9.toNat) = some (.sc (.int .u64 x13)) := by
              have e0 := part_elem0 (e := c40) (z := 1) (T := T.T) (ty := 40) T.t40 (by decide) (by decide) hx13 0 (by decide)
              (try simp only [Nat.mul_one, Nat.add_zero] at e0)
              exact e0.trans rfl
          refine Stk.run 5 (fun t H n => t 1 = .own b1 0 ∧ t 4 = .sc (.bool v8) ∧ t 5 = .sc (.int .i64 v9) ∧ t 63 = .sc (.int .u64 x13) ∧ H b1 = some (.cells (c93 a0) 93) ∧ b1 < n) (fun J hJ => ?_) ?_
          · simp [-splice, f1, f4, f5, f57, b_b1, ld_93_0_39, i0x13, i1x13, pd40, ex13_0_40]
            exact hJ _ _ _ ⟨by simp [f1], by simp [f4], by simp [f5], by simp [-splice, f1, f4, f5, f57, b_b1, ld_93_0_39, i0x13, i1x13, pd40, ex13_0_40], b_b1, l_b1⟩
          clear f1 f4 f5 f57 b_b1 l_b1
          rintro t H n ⟨f1, f4, f5, f63, b_b1, l_b1⟩
          obtain ⟨x14, hx14, h⟩ := bnd h
          refine Stk.cv (g := 58) (args := [.sc (.int .u64 x13)]) (args' := [.sc (.int .u64 x13)]) (v := .tup [.agg (c34 x14.1), .sc (.bool x14.2)]) [] (ok_R16_Read F _ _ hx14) (by simp [f1, f4, f5, f63]) rfl rfl (by simp [f1, f4, f5, f63]) (.cons (.free (rfl)) (.nil)) (.inl ⟨rfl, by simp [free, freeL, fr34]⟩) (fun t' ht' => ?_)
          refine Stk.gen (fun t H n => t 1 = .own b1 0 ∧ t 4 = .sc (.bool v8) ∧ t 5 = .sc (.int .i64 v9) ∧ t 64 = .tup [.agg (c34 x14.1), .sc (.bool x14.2)] ∧ H b1 = some (.cells (c93 a0) 93) ∧ b1 < n) ⟨by simp [ht', f1], by simp [ht', f4], by simp [ht', f5], by simp [ht'], b_b1, l_b1⟩ ?_
          clear f1 f4 f5 f63 b_b1 l_b1 ht' t'
          rintro t H n ⟨f1, f4, f5, f64, b_b1, l_b1⟩
          refine Stk.run 3 (fun t H n => t 1 = .own b1 0 ∧ t 4 = .sc (.bool v8) ∧ t 5 = .sc (.int .i64 v9) ∧ t 65 = .agg (c34 x14.1) ∧ t 66 = .sc (.bool x14.2) ∧ H b1 = some (.cells (c93 a0) 93) ∧ b1 < n) (fun J hJ => ?_) ?_
          · simp [-splice, f1, f4, f5, f64, b_b1]
            exact hJ _ _ _ ⟨by simp [f1], by simp [f4], by simp [f5], by simp [-splice, f1, f4, f5, f64, b_b1], by simp [-splice, f1, f4, f5, f64, b_b1], b_b1, l_b1⟩
          clear f1 f4 f5 f64 b_b1 l_b1
          rintro t H n ⟨f1, f4, f5, f65, f66, b_b1, l_b1⟩
          refine Stk.om (mop_alloc T.t34 (cs := c34 (api_Head.mk 0 0 0)) rfl) (by simp [f1, f4, f5, f65, f66]) rfl (fun t' ht' => ?_)
          refine Stk.gen (fun t H n => ∃ b15, t 1 = .own b1 0 ∧ t 4 = .sc (.bool v8) ∧ t 5 = .sc (.int .i64 v9) ∧ t 6 = .own b15 0 ∧ t 65 = .agg (c34 x14.1) ∧ t 66 = .sc (.bool x14.2) ∧ H b1 = some (.cells (c93 a0) 93) ∧ b1 < n ∧ H b15 = some (.cells (c34 (api_Head.mk 0 0 0)) 34) ∧ b15 < n ∧ b1 ≠ b15) ⟨n, by simp [ht', f1], by simp [ht', f4], by simp [ht', f5], by simp [ht'], by simp [ht', f65], by simp [ht', f66], (upd_ne _ _ (Nat.ne_of_lt l_b1)).trans b_b1, Nat.lt_succ_of_lt l_b1, upd_same _ _ _, Nat.lt_succ_self _, Nat.ne_of_lt l_b1⟩ ?_
          clear f1 f4 f5 f65 f66 b_b1 l_b1 ht' t'
          rintro t H n ⟨b15, f1, f4, f5, f6, f65, f66, b_b1, l_b1, b_b15, l_b15, d_b1_b15⟩
          refine Stk.om (mop_store (z := 3) rfl f6 b_b15 f65 (len34 _) (by rw [len34]; decide) (ok34 _) (st_34_0_34 _ _)) (by simp [f1, f4, f5, f6, f65, f66]) rfl (fun t' ht' => ?_)
          refine Stk.gen (fun t H n => t 1 = .own b1 0 ∧ t 4 = .sc (.bool v8) ∧ t 5 = .sc (.int .i64 v9) ∧ t 6 = .own b15 0 ∧ t 66 = .sc (.bool x14.2) ∧ H b1 = some (.cells (c93 a0) 93) ∧ b1 < n ∧ H b15 = some (.cells (c34 x14.1) 34) ∧ b15 < n ∧ b1 ≠ b15) ⟨by simp [ht', f1], by simp [ht', f4], by simp [ht', f5], by simp [ht', f6], by simp [ht', f66], (upd_ne _ _ d_b1_b15).trans b_b1, l_b1, upd_same _ _ _, l_b15, d_b1_b15⟩ ?_
          clear f1 f4 f5 f6 f65 f66 b_b1 l_b1 b_b15 l_b15 d_b1_b15 ht' t'
          rintro t H n ⟨f1, f4, f5, f6, f66, b_b1, l_b1, b_b15, l_b15, d_b1_b15⟩
          refine Stk.run 1 (fun t H n => t 1 = .own b1 0 ∧ t 4 = .sc (.bool v8) ∧ t 5 = .sc (.int .i64 v9) ∧ t 6 = .own b15 0 ∧ t 7 = .sc (.bool x14.2) ∧ H b1 = some (.cells (c93 a0) 93) ∧ b1 < n ∧ H b15 = some (.cells (c34 x14.1) 34) ∧ b15 < n ∧ b1 ≠ b15) (fun J hJ => ?_) ?_
          · simp [-splice, f1, f4, f5, f6, f66, b_b1, b_b15]
            exact hJ _ _ _ ⟨by simp [f1], by simp [f4], by simp [f5], by simp [f6], by simp [-splice, f1, f4, f5, f6, f66, b_b1, b_b15], b_b1, l_b1, b_b15, l_b15, d_b1_b15⟩
          clear f1 f4 f5 f6 f66 b_b1 l_b1 b_b15 l_b15 d_b1_b15
          rintro t H n ⟨f1, f4, f5, f6, f7, b_b1, l_b1, b_b15, l_b15, d_b1_b15⟩
          refine Stk.on ?_
          refine Stk.sq ?_
          refine Stk.sq ?_
          obtain ⟨n0, hn0⟩ : ∃ m, m = n := ⟨n, rfl⟩
          have ln0 : n0 ≤ n := Nat.le_of_eq hn0
          refine Stk.rgD [.rd [], .rd [], .rd [], .rd [b15], .rd [], .rd [], .rd [b1], .rd [], .rd [], .rd [], .rd [], .rd [], .rd [], .rd [b1], .rd [], .rd [], .rd [], .rd [], .rd [], .rd [], .rd [], .rd [], .rd []] none (by kernel_rfl) (by rfl) rfl (by simp [below, hn0, l_b1, hn0, l_b15]) rfl ?_
          refine Stk.runD 3 (fun t H n => t 1 = .own b1 0 ∧ t 4 = .sc (.bool v8) ∧ t 5 = .sc (.int .i64 v9) ∧ t 6 = .own b15 0 ∧ t 69 = .sc (.bool (!x14.2)) ∧ H b1 = some (.cells (c93 a0) 93) ∧ b1 < n ∧ H b15 = some (.cells (c34 x14.1) 34) ∧ b15 < n ∧ b1 ≠ b15 ∧ n0 ≤ n) (fun J hJ => ?_) ?_
          · simp [-splice, f1, f4, f5, f6, f7, b_b1, b_b15]
            exact hJ _ _ _ ⟨by simp [f1], by simp [f4], by simp [f5], by simp [f6], by simp [-splice, f1, f4, f5, f6, f7, b_b1, b_b15], b_b1, l_b1, b_b15, l_b15, d_b1_b15, ln0⟩
          clear f1 f4 f5 f6 f7 b_b1 l_b1 b_b15 l_b15 d_b1_b15 ln0
          rintro t H n ⟨f1, f4, f5, f6, f69, b_b1, l_b1, b_b15, l_b15, d_b1_b15, ln0⟩
          obtain ⟨K7, hK7, h⟩ := jnd h
          refine Stk.jd 8 (fun t H n => ∃ v16 : Bool, K7 v16 = some r ∧ t 1 = .own b1 0 ∧ t 4 = .sc (.bool v8) ∧ t 5 = .sc (.int .i64 v9) ∧ t 6 = .own b15 0 ∧ t 77 = .sc (.bool v16) ∧ H b1 = some (.cells (c93 a0) 93) ∧ b1 < n ∧ H b15 = some (.cells (c34 x14.1) 34) ∧ b15 < n ∧ b1 ≠ b15) (fun J7 hJ7 => ?_) ?_
          · rcases Bool.eq_false_or_eq_true (!x14.2) with hb7 | hb7
            · rw [hb7] at f69
              replace h := cT hb7 h
              refine Stk.runD 8 (fun t H n => t 1 = .own b1 0 ∧ t 4 = .sc (.bool v8) ∧ t 5 = .sc (.int .i64 v9) ∧ t 6 = .own b15 0 ∧ t 77 = .sc (.bool true) ∧ H b1 = some (.cells (c93 a0) 93) ∧ b1 < n ∧ H b15 = some (.cells (c34 x14.1) 34) ∧ b15 < n ∧ b1 ≠ b15 ∧ n0 ≤ n) (fun J hJ => ?_) ?_
              · simp [-splice, f1, f4, f5, f6, f69, b_b1, b_b15]
                exact hJ _ _ _ ⟨by simp [f1], by simp [f4], by simp [f5], by simp [f6], by simp [-splice, f1, f4, f5, f6, f69, b_b1, b_b15], b_b1, l_b1, b_b15, l_b15, d_b1_b15, ln0⟩
              clear f1 f4 f5 f6 f69 b_b1 l_b1 b_b15 l_b15 d_b1_b15 ln0
              rintro t H n ⟨f1, f4, f5, f6, f77, b_b1, l_b1, b_b15, l_b15, d_b1_b15, ln0⟩
              refine Stk.onD ?_
              exact Stk.ln 0 (by decide) (hJ7 _ _ _ ⟨true, h, f1, f4, f5, f6, f77, b_b1, l_b1, b_b15, l_b15, d_b1_b15⟩)
            · rw [hb7] at f69
              replace h := cF hb7 h
              refine Stk.runD 1 (fun t H n => t 1 = .own b1 0 ∧ t 4 = .sc (.bool v8) ∧ t 5 = .sc (.int .i64 v9) ∧ t 6 = .own b15 0 ∧ t 69 = .sc (.bool false) ∧ t 70 = .agg (c34 x14.1) ∧ H b1 = some (.cells (c93 a0) 93) ∧ b1 < n ∧ H b15 = some (.cells (c34 x14.1) 34) ∧ b15 < n ∧ b1 ≠ b15 ∧ n0 ≤ n) (fun J hJ => ?_) ?_
              · simp [-splice, f1, f4, f5, f6, f69, b_b1, b_b15, ld_34_0_34]
                exact hJ _ _ _ ⟨by simp [f1], by simp [f4], by simp [f5], by simp [f6], by simp [f69], by simp [-splice, f1, f4, f5, f6, f69, b_b1, b_b15, ld_34_0_34], b_b1, l_b1, b_b15, l_b15, d_b1_b15, ln0⟩
              clear f1 f4 f5 f6 f69 b_b1 l_b1 b_b15 l_b15 d_b1_b15 ln0
              rintro t H n ⟨f1, f4, f5, f6, f69, f70, b_b1, l_b1, b_b15, l_b15, d_b1_b15, ln0⟩
              obtain ⟨x17, hx17, h⟩ := bnd h
              refine Stk.cvD (g := 36) (args := [.agg (c34 x14.1)]) (args' := [.agg (c34 x14.1)]) (v := .sc (.int .i64 x17)) [] (ok_R16_Size F _ _ hx17) rfl (by simp) rfl (by simp [f1, f4, f5, f6, f69, f70]) rfl rfl (by simp [f1, f4, f5, f6, f69, f70]) (.cons (.free (fr34 _)) (.nil)) (.inl ⟨rfl, rfl⟩) (fun t' ht' => ?_)
              refine Stk.gen (fun t H n => t 1 = .own b1 0 ∧ t 4 = .sc (.bool v8) ∧ t 5 = .sc (.int .i64 v9) ∧ t 6 = .own b15 0 ∧ t 69 = .sc (.bool false) ∧ t 71 = .sc (.int .i64 x17) ∧ H b1 = some (.cells (c93 a0) 93) ∧ b1 < n ∧ H b15 = some (.cells (c34 x14.1) 34) ∧ b15 < n ∧ b1 ≠ b15 ∧ n0 ≤ n) ⟨by simp [ht', f1], by simp [ht', f4], by simp [ht', f5], by simp [ht', f6], by simp [ht', f69], by simp [ht'], b_b1, l_b1, b_b15, l_b15, d_b1_b15, ln0⟩ ?_
              clear f1 f4 f5 f6 f69 f70 b_b1 l_b1 b_b15 l_b15 d_b1_b15 ln0 ht' t'
              rintro t H n ⟨f1, f4, f5, f6, f69, f71, b_b1, l_b1, b_b15, l_b15, d_b1_b15, ln0⟩
              refine Stk.runD 6 (fun t H n => t 1 = .own b1 0 ∧ t 4 = .sc (.bool v8) ∧ t 5 = .sc (.int .i64 v9) ∧ t 6 = .own b15 0 ∧ t 77 = .sc (.bool (decide ((IntKind.i64.wrap (a0.Next - v9)) < x17))) ∧ H b1 = some (.cells (c93 a0) 93) ∧ b1 < n ∧ H b15 = some (.cells (c34 x14.1) 34) ∧ b15 < n ∧ b1 ≠ b15 ∧ n0 ≤ n) (fun J hJ => ?_) ?_
              · simp [-splice, f1, f4, f5, f6, f69, f71, b_b1, b_b15, ld_93_3_3]
                exact hJ _ _ _ ⟨by simp [f1], by simp [f4], by simp [f5], by simp [f6], by simp [-splice, f1, f4, f5, f6, f69, f71, b_b1, b_b15, ld_93_3_3], b_b1, l_b1, b_b15, l_b15, d_b1_b15, ln0⟩
              clear f1 f4 f5 f6 f69 f71 b_b1 l_b1 b_b15 l_b15 d_b1_b15 ln0
              rintro t H n ⟨f1, f4, f5, f6, f77, b_b1, l_b1, b_b15, l_b15, d_b1_b15, ln0⟩
              refine Stk.onD ?_
              exact Stk.ln 0 (by decide) (hJ7 _ _ _ ⟨(decide ((IntKind.i64.wrap (a0.Next - v9)) < x17)), h, f1, f4, f5, f6, f77, b_b1, l_b1, b_b15, l_b15, d_b1_b15⟩)
          clear h f1 f4 f5 f6 f69 b_b1 l_b1 b_b15 l_b15 d_b1_b15 ln0
          rintro t H n ⟨v16, h, f1, f4, f5, f6, f77, b_b1, l_b1, b_b15, l_b15, d_b1_b15⟩
          subst hK7
          refine Stk.runD 1 (fun t H n => t 1 = .own b1 0 ∧ t 4 = .sc (.bool v8) ∧ t 5 = .sc (.int .i64 v9) ∧ t 6 = .own b15 0 ∧ t 78 = .sc (.bool v16) ∧ H b1 = some (.cells (c93 a0) 93) ∧ b1 < n ∧ H b15 = some (.cells (c34 x14.1) 34) ∧ b15 < n ∧ b1 ≠ b15) (fun J hJ => ?_) ?_
          · simp [-splice, f1, f4, f5, f6, f77, b_b1, b_b15]
            exact hJ _ _ _ ⟨by simp [f1], by simp [f4], by simp [f5], by simp [f6], by simp [-splice, f1, f4, f5, f6, f77, b_b1, b_b15], b_b1, l_b1, b_b15, l_b15, d_b1_b15⟩
          clear f1 f4 f5 f6 f77 b_b1 l_b1 b_b15 l_b15 d_b1_b15
          rintro t H n ⟨f1, f4, f5, f6, f78, b_b1, l_b1, b_b15, l_b15, d_b1_b15⟩
          obtain ⟨K8, hK8, h⟩ := jnd h
          refine Stk.jd 11 (fun t H n => ∃ v18 : Bool, K8 v18 = some r ∧ t 1 = .own b1 0 ∧ t 4 = .sc (.bool v8) ∧ t 5 = .sc (.int .i64 v9) ∧ t 6 = .own b15 0 ∧ t 89 = .sc (.bool v18) ∧ H b1 = some (.cells (c93 a0) 93) ∧ b1 < n ∧ H b15 = some (.cells (c34 x14.1) 34) ∧ b15 < n ∧ b1 ≠ b15) (fun J8 hJ8 => ?_) ?_
          · rcases Bool.eq_false_or_eq_true v16 with hb8 | hb8
            · rw [hb8] at f78
              replace h := cT hb8 h
              refine Stk.runD 11 (fun t H n => t 1 = .own b1 0 ∧ t 4 = .sc (.bool v8) ∧ t 5 = .sc (.int .i64 v9) ∧ t 6 = .own b15 0 ∧ t 89 = .sc (.bool true) ∧ H b1 = some (.cells (c93 a0) 93) ∧ b1 < n ∧ H b15 = some (.cells (c34 x14.1) 34) ∧ b15 < n ∧ b1 ≠ b15) (fun J hJ => ?_) ?_
              · simp [-splice, f1, f4, f5, f6, f78, b_b1, b_b15]
                exact hJ _ _ _ ⟨by simp [f1], by simp [f4], by simp [f5], by simp [f6], by simp [-splice, f1, f4, f5, f6, f78, b_b1, b_b15], b_b1, l_b1, b_b15, l_b15, d_b1_b15⟩
              clear f1 f4 f5 f6 f78 b_b1 l_b1 b_b15 l_b15 d_b1_b15
              rintro t H n ⟨f1, f4, f5, f6, f89, b_b1, l_b1, b_b15, l_b15, d_b1_b15⟩
              refine Stk.onD ?_
              exact Stk.ln 0 (by decide) (hJ8 _ _ _ ⟨true, h, f1, f4, f5, f6, f89, b_b1, l_b1, b_b15, l_b15, d_b1_b15⟩)
            · rw [hb8] at f78
              replace h := cF hb8 h
              obtain ⟨x19, hx19, h⟩ := bnd h
              obtain ⟨i0x19, i1x19, i2x19, _⟩ := idx_ok hx19
              have ex19_0_40 : partOf T.T 40 (encs c40 a0.Words) ((IntKind.i64.wrap (v9 + 1)).toNat) = some (.sc (.int .u64 x19)) := by
                  have e0 := part_elem0 (e := c40) (z := 1) (T := T.T) (ty := 40) T.t40 (by decide) (by decide) hx19 0 (by decide)
                  (try simp only [Nat.mul_one, Nat.add_zero] at e0)
                  exact e0.trans rfl
              refine Stk.runD 8 (fun t H n => t 1 = .own b1 0 ∧ t 4 = .sc (.bool v8) ∧ t 5 = .sc (.int .i64 v9) ∧ t 6 = .own b15 0 ∧ t 78 = .sc (.bool false) ∧ t 84 = .sc (.int .u64 x19) ∧ t 86 = .sc (.int .u32 (IntKind.u32.wrap v9)) ∧ H b1 = some (.cells (c93 a0) 93) ∧ b1 < n ∧ H b15 = some (.cells (c34 x14.1) 34) ∧ b15 < n ∧ b1 ≠ b15) (fun J hJ => ?_) ?_
              · simp [-splice, f1, f4, f5, f6, f78, b_b1, b_b15, ld_93_0_39, i0x19, i1x19, pd40, ex19_0_40]
                exact hJ _ _ _ ⟨by simp [f1], by simp [f4], by simp [f5], by simp [f6], by simp [f78], by simp [-splice, f1, f4, f5, f6, f78, b_b1, b_b15, ld_93_0_39, i0x19, i1x19, pd40, ex19_0_40], by simp [-splice, f1, f4, f5, f6, f78, b_b1, b_b15, ld_93_0_39, i0x19, i1x19, pd40, ex19_0_40], b_b1, l_b1, b_b15, l_b15, d_b1_b15⟩
              clear f1 f4 f5 f6 f78 b_b1 l_b1 b_b15 l_b15 d_b1_b15
              rintro t H n ⟨f1, f4, f5, f6, f78, f84, f86, b_b1, l_b1, b_b15, l_b15, d_b1_b15⟩
              obtain ⟨x20, hx20, h⟩ := bnd h
              refine Stk.cvD (g := 120) (args := [.sc (.int .u32 (IntKind.u32.wrap v9))]) (args' := [.sc (.int .u32 (IntKind.u32.wrap v9))]) (v := .sc (.int .u64 x20)) [] (ok_R01_Ptr F _ _ hx20) rfl (by simp) rfl (by simp [f1, f4, f5, f6, f78, f84, f86]) rfl rfl (by simp [f1, f4, f5, f6, f78, f84, f86]) (.cons (.free (rfl)) (.nil)) (.inl ⟨rfl, rfl⟩) (fun t' ht' => ?_)
              refine Stk.gen (fun t H n => t 1 = .own b1 0 ∧ t 4 = .sc (.bool v8) ∧ t 5 = .sc (.int .i64 v9) ∧ t 6 = .own b15 0 ∧ t 78 = .sc (.bool false) ∧ t 84 = .sc (.int .u64 x19) ∧ t 87 = .sc (.int .u64 x20) ∧ H b1 = some (.cells (c93 a0) 93) ∧ b1 < n ∧ H b15 = some (.cells (c34 x14.1) 34) ∧ b15 < n ∧ b1 ≠ b15) ⟨by simp [ht', f1], by simp [ht', f4], by simp [ht', f5], by simp [ht', f6], by simp [ht', f78], by simp [ht', f84], by simp [ht'], b_b1, l_b1, b_b15, l_b15, d_b1_b15⟩ ?_
              clear f1 f4 f5 f6 f78 f84 f86 b_b1 l_b1 b_b15 l_b15 d_b1_b15 ht' t'
              rintro t H n ⟨f1, f4, f5, f6, f78, f84, f87, b_b1, l_b1, b_b15, l_b15, d_b1_b15⟩
              refine Stk.runD 2 (fun t H n => t 1 = .own b1 0 ∧ t 4 = .sc (.bool v8) ∧ t 5 = .sc (.int .i64 v9) ∧ t 6 = .own b15 0 ∧ t 89 = .sc (.bool (x19 != x20)) ∧ H b1 = some (.cells (c93 a0) 93) ∧ b1 < n ∧ H b15 = some (.cells (c34 x14.1) 34) ∧ b15 < n ∧ b1 ≠ b15) (fun J hJ => ?_) ?_
              · simp [-splice, f1, f4, f5, f6, f78, f84, f87, b_b1, b_b15]
                exact hJ _ _ _ ⟨by simp [f1], by simp [f4], by simp [f5], by simp [f6], by simp [-splice, f1, f4, f5, f6, f78, f84, f87, b_b1, b_b15], b_b1, l_b1, b_b15, l_b15, d_b1_b15⟩
              clear f1 f4 f5 f6 f78 f84 f87 b_b1 l_b1 b_b15 l_b15 d_b1_b15
              rintro t H n ⟨f1, f4, f5, f6, f89, b_b1, l_b1, b_b15, l_b15, d_b1_b15⟩
              refine Stk.onD ?_
              exact Stk.ln 0 (by decide) (hJ8 _ _ _ ⟨(x19 != x20), h, f1, f4, f5, f6, f89, b_b1, l_b1, b_b15, l_b15, d_b1_b15⟩)
          clear h f1 f4 f5 f6 f78 b_b1 l_b1 b_b15 l_b15 d_b1_b15
          rintro t H n ⟨v18, h, f1, f4, f5, f6, f89, b_b1, l_b1, b_b15, l_b15, d_b1_b15⟩
          subst hK8
          refine Stk.onD ?_
          refine Stk.cond v18 (by exact f89) (fun hb21 => ?_) (fun hb21 => ?_)
          · have h := cT hb21 h
            refine Stk.sq ?_
            refine Stk.rg ?_
            refine Stk.run 1 (fun t H n => t 2 = .sc (.bool false)) (fun J hJ => ?_) ?_
            · simp [-splice, f1, f4, f5, f6, f89, b_b1, b_b15]
              exact hJ _ _ _ (by simp [-splice, f1, f4, f5, f6, f89, b_b1, b_b15])
            clear f1 f4 f5 f6 f89 b_b1 l_b1 b_b15 l_b15 d_b1_b15
            rintro t H n f2
            refine Stk.on ?_
            refine Stk.rt ?_
            have hq := Option.some.inj h; subst hq
            exact (hr _ _ _ (.sc (.bool false)) ([]) (by simp [f2]) (.inr (.inr (.free (rfl))))).1
          · have h := cF hb21 h
            refine Stk.sk ?_
            refine Stk.sq ?_
            refine Stk.rg ?_
            refine Stk.run 2 (fun t H n => t 1 = .own b1 0 ∧ t 5 = .sc (.int .i64 v9) ∧ t 6 = .own b15 0 ∧ t 91 = .sc (.bool v8) ∧ H b1 = some (.cells (c93 a0) 93) ∧ b1 < n ∧ H b15 = some (.cells (c34 x14.1) 34) ∧ b15 < n ∧ b1 ≠ b15) (fun J hJ => ?_) ?_
            · simp [-splice, f1, f4, f5, f6, f89, b_b1, b_b15]
              exact hJ _ _ _ ⟨by simp [f1], by simp [f5], by simp [f6], by simp [-splice, f1, f4, f5, f6, f89, b_b1, b_b15], b_b1, l_b1, b_b15, l_b15, d_b1_b15⟩
            clear f1 f4 f5 f6 f89 b_b1 l_b1 b_b15 l_b15 d_b1_b15
            rintro t H n ⟨f1, f5, f6, f91, b_b1, l_b1, b_b15, l_b15, d_b1_b15⟩
            refine Stk.jo 5 (fun t H n => t 1 = .own b1 0 ∧ t 5 = .sc (.int .i64 v9) ∧ t 6 = .own b15 0 ∧ t 96 = .sc (.bool (v8 || (a0.Scan == v9))) ∧ H b1 = some (.cells (c93 a0) 93) ∧ b1 < n ∧ H b15 = some (.cells (c34 x14.1) 34) ∧ b15 < n ∧ b1 ≠ b15) (fun J9 hJ9 => ?_) ?_
            · rcases Bool.eq_false_or_eq_true v8 with hb9 | hb9
              · rw [hb9] at f91
                refine Stk.run 5 (fun t H n => t 1 = .own b1 0 ∧ t 5 = .sc (.int .i64 v9) ∧ t 6 = .own b15 0 ∧ t 96 = .sc (.bool true) ∧ H b1 = some (.cells (c93 a0) 93) ∧ b1 < n ∧ H b15 = some (.cells (c34 x14.1) 34) ∧ b15 < n ∧ b1 ≠ b15) (fun J hJ => ?_) ?_
                · simp [-splice, f1, f5, f6, f91, b_b1, b_b15]
                  exact hJ _ _ _ ⟨by simp [f1], by simp [f5], by simp [f6], by simp [-splice, f1, f5, f6, f91, b_b1, b_b15], b_b1, l_b1, b_b15, l_b15, d_b1_b15⟩
                clear f1 f5 f6 f91 b_b1 l_b1 b_b15 l_b15 d_b1_b15
                rintro t H n ⟨f1, f5, f6, f96, b_b1, l_b1, b_b15, l_b15, d_b1_b15⟩
                refine Stk.on ?_
                exact Stk.ln 0 (by decide) (hJ9 _ _ _ ⟨f1, f5, f6, f96.trans (congrArg (fun q => AV.sc (.bool q)) (by rw [hb9]; rfl)), b_b1, l_b1, b_b15, l_b15, d_b1_b15⟩)
              · rw [hb9] at f91
                refine Stk.run 5 (fun t H n => t 1 = .own b1 0 ∧ t 5 = .sc (.int .i64 v9) ∧ t 6 = .own b15 0 ∧ t 96 = .sc (.bool (a0.Scan == v9)) ∧ H b1 = some (.cells (c93 a0) 93) ∧ b1 < n ∧ H b15 = some (.cells (c34 x14.1) 34) ∧ b15 < n ∧ b1 ≠ b15) (fun J hJ => ?_) ?_
                · simp [-splice, f1, f5, f6, f91, b_b1, b_b15, ld_93_5_3]
                  exact hJ _ _ _ ⟨by simp [f1], by simp [f5], by simp [f6], by simp [-splice, f1, f5, f6, f91, b_b1, b_b15, ld_93_5_3], b_b1, l_b1, b_b15, l_b15, d_b1_b15⟩
                clear f1 f5 f6 f91 b_b1 l_b1 b_b15 l_b15 d_b1_b15
                rintro t H n ⟨f1, f5, f6, f96, b_b1, l_b1, b_b15, l_b15, d_b1_b15⟩
                refine Stk.on ?_
                exact Stk.ln 0 (by decide) (hJ9 _ _ _ ⟨f1, f5, f6, f96.trans (congrArg (fun q => AV.sc (.bool q)) (by rw [hb9]; rfl)), b_b1, l_b1, b_b15, l_b15, d_b1_b15⟩)
            clear f1 f5 f6 f91 b_b1 l_b1 b_b15 l_b15 d_b1_b15
            rintro t H n ⟨f1, f5, f6, f96, b_b1, l_b1, b_b15, l_b15, d_b1_b15⟩
            refine Stk.run 1 (fun t H n => t 1 = .own b1 0 ∧ t 4 = .sc (.bool (v8 || (a0.Scan == v9))) ∧ t 5 = .sc (.int .i64 v9) ∧ t 6 = .own b15 0 ∧ H b1 = some (.cells (c93 a0) 93) ∧ b1 < n ∧ H b15 = some (.cells (c34 x14.1) 34) ∧ b15 < n ∧ b1 ≠ b15) (fun J hJ => ?_) ?_
            · simp [-splice, f1, f5, f6, f96, b_b1, b_b15]
              exact hJ _ _ _ ⟨by simp [f1], by simp [-splice, f1, f5, f6, f96, b_b1, b_b15], by simp [f5], by simp [f6], b_b1, l_b1, b_b15, l_b15, d_b1_b15⟩
            clear f1 f5 f6 f96 b_b1 l_b1 b_b15 l_b15 d_b1_b15
            rintro t H n ⟨f1, f4, f5, f6, b_b1, l_b1, b_b15, l_b15, d_b1_b15⟩
            refine Stk.on ?_
            refine Stk.rg ?_
            refine Stk.run 2 (fun t H n => t 1 = .own b1 0 ∧ t 4 = .sc (.bool (v8 || (a0.Scan == v9))) ∧ t 97 = .sc (.int .i64 v9) ∧ t 98 = .agg (c34 x14.1) ∧ H b1 = some (.cells (c93 a0) 93) ∧ b1 < n) (fun J hJ => ?_) ?_
            · simp [-splice, f1, f4, f5, f6, b_b1, b_b15, ld_34_0_34]
              exact hJ _ _ _ ⟨by simp [f1], by simp [f4], by simp [-splice, f1, f4, f5, f6, b_b1, b_b15, ld_34_0_34], by simp [-splice, f1, f4, f5, f6, b_b1, b_b15, ld_34_0_34], b_b1, l_b1⟩
            clear f1 f4 f5 f6 b_b1 l_b1 b_b15 l_b15 d_b1_b15
            rintro t H n ⟨f1, f4, f97, f98, b_b1, l_b1⟩
            obtain ⟨x22, hx22, h⟩ := bnd h
            refine Stk.cv (g := 36) (args := [.agg (c34 x14.1)]) (args' := [.agg (c34 x14.1)]) (v := .sc (.int .i64 x22)) [] (ok_R16_Size F _ _ hx22) (by simp [f1, f4, f97, f98]) rfl rfl (by simp [f1, f4, f97, f98]) (.cons (.free (fr34 _)) (.nil)) (.inl ⟨rfl, rfl⟩) (fun t' ht' => ?_)
            refine Stk.gen (fun t H n => t 1 = .own b1 0 ∧ t 4 = .sc (.bool (v8 || (a0.Scan == v9))) ∧ t 97 = .sc (.int .i64 v9) ∧ t 99 = .sc (.int .i64 x22) ∧ H b1 = some (.cells (c93 a0) 93) ∧ b1 < n) ⟨by simp [ht', f1], by simp [ht', f4], by simp [ht', f97], by simp [ht'], b_b1, l_b1⟩ ?_
            clear f1 f4 f97 f98 b_b1 l_b1 ht' t'
            rintro t H n ⟨f1, f4, f97, f99, b_b1, l_b1⟩
            refine Stk.run 2 (fun t H n => t 1 = .own b1 0 ∧ t 4 = .sc (.bool (v8 || (a0.Scan == v9))) ∧ t 5 = .sc (.int .i64 (IntKind.i64.wrap (v9 + x22))) ∧ H b1 = some (.cells (c93 a0) 93) ∧ b1 < n) (fun J hJ => ?_) ?_
            · simp [-splice, f1, f4, f97, f99, b_b1]
              exact hJ _ _ _ ⟨by simp [f1], by simp [f4], by simp [-splice, f1, f4, f97, f99, b_b1], b_b1, l_b1⟩
            clear f1 f4 f97 f99 b_b1 l_b1
            rintro t H n ⟨f1, f4, f5, b_b1, l_b1⟩
            refine Stk.on ?_
            refine Stk.bn ?_
            exact Stk.ln μ (Nat.lt_succ_self _) (hJ6 _ _ _ _ ⟨(v8 || (a0.Scan == v9)), (IntKind.i64.wrap (v9 + x22)), h, f1, f4, f5, b_b1, l_b1⟩)
        · have h := cF hb12 h
          refine Stk.ex rfl ?_
          exact Stk.ln 0 (by decide) (hJ5 _ _ _ ⟨v8, h, f1, f4, b_b1, l_b1⟩)
      clear h f1 f4 f5 b_b1 l_b1
      rintro t H n ⟨v7, h, f1, f4, b_b1, l_b1⟩
      subst hK5
      refine Stk.sq ?_
      refine Stk.sq ?_
      refine Stk.rg ?_
      refine Stk.run 3 (fun t H n => t 1 = .own b1 0 ∧ t 4 = .sc (.bool v7) ∧ t 103 = .sc (.bool (!a0.On)) ∧ H b1 = some (.cells (c93 a0) 93) ∧ b1 < n) (fun J hJ => ?_) ?_
      · simp [-splice, f1, f4, b_b1, ld_93_4_4]
        exact hJ _ _ _ ⟨by simp [f1], by simp [f4], by simp [-splice, f1, f4, b_b1, ld_93_4_4], b_b1, l_b1⟩
      clear f1 f4 b_b1 l_b1
      rintro t H n ⟨f1, f4, f103, b_b1, l_b1⟩
      refine Stk.on ?_
      refine Stk.cond (!a0.On) (by exact f103) (fun hb23 => ?_) (fun hb23 => ?_)
      · have h := cT hb23 h
        refine Stk.sq ?_
        refine Stk.rg ?_
        refine Stk.run 4 (fun t H n => t 2 = .sc (.bool (a0.Scan == 0))) (fun J hJ => ?_) ?_
        · simp [-splice, f1, f4, f103, b_b1, ld_93_5_3]
          exact hJ _ _ _ (by simp [-splice, f1, f4, f103, b_b1, ld_93_5_3])
        clear f1 f4 f103 b_b1 l_b1
        rintro t H n f2
        refine Stk.on ?_
        refine Stk.rt ?_
        have hq := Option.some.inj h; subst hq
        exact (hr _ _ _ (.sc (.bool (a0.Scan == 0))) ([]) (by simp [f2]) (.inr (.inr (.free (rfl))))).1
      · have h := cF hb23 h
        refine Stk.sk ?_
        refine Stk.sq ?_
        refine Stk.rg ?_
        refine Stk.run 2 (fun t H n => t 2 = .sc (.bool v7)) (fun J hJ => ?_) ?_
        · simp [-splice, f1, f4, f103, b_b1]
          exact hJ _ _ _ (by simp [-splice, f1, f4, f103, b_b1])
        clear f1 f4 f103 b_b1 l_b1
        rintro t H n f2
        refine Stk.on ?_
        refine Stk.rt ?_
        have hq := Option.some.inj h; subst hq
        exact (hr _ _ _ (.sc (.bool v7)) ([]) (by simp [f2]) (.inr (.inr (.free (rfl))))).1
theorem ok_R16_Same (F : Nat) (a0 : api_Heap) (a1 : api_Heap) (r : Bool) (h : R16_Same F a0 a1 = some r) : RunF Try.prog T.T 73 [.agg (c93 a0), .agg (c93 a1)] (.sc (.bool r)) := by
  rw [R16_Same] at h
  refine RunF.z Try.func73 rfl rfl rfl rfl rfl (fun C hr => ?_)
  refine Stk.gen (fun t H n => t 0 = .agg (c93 a0) ∧ t 1 = .agg (c93 a1)) ⟨by simp, by simp⟩ ?_
  rintro t H n ⟨f0, f1⟩
  refine Stk.sq ?_
  refine Stk.rg ?_
  refine Stk.om (mop_box T.t93 (cs := c93 a0) (by show partOk (t 0) = true; rw [f0]; rfl) (by show cellsOf (t 0) = _; rw [f0]; rfl)) (by simp [f0, f1]) rfl (fun t' ht' => ?_)
  refine Stk.gen (fun t H n => ∃ b1, t 1 = .agg (c93 a1) ∧ t 2 = .own b1 0 ∧ H b1 = some (.cells (c93 a0) 93) ∧ b1 < n) ⟨n, by simp [ht', f1], by simp [ht'], upd_same _ _ _, Nat.lt_succ_self _⟩ ?_
  clear f0 f1 ht' t'
  rintro t H n ⟨b1, f1, f2, b_b1, l_b1⟩
  refine Stk.om (mop_box T.t93 (cs := c93 a1) (by show partOk (t 1) = true; rw [f1]; rfl) (by show cellsOf (t 1) = _; rw [f1]; rfl)) (by simp [f1, f2]) rfl (fun t' ht' => ?_)
  refine Stk.gen (fun t H n => ∃ b2, t 2 = .own b1 0 ∧ t 3 = .own b2 0 ∧ H b1 = some (.cells (c93 a0) 93) ∧ b1 < n ∧ H b2 = some (.cells (c93 a1) 93) ∧ b2 < n ∧ b1 ≠ b2) ⟨n, by simp [ht', f2], by simp [ht'], (upd_ne _ _ (Nat.ne_of_lt l_b1)).trans b_b1, Nat.lt_succ_of_lt l_b1, upd_same _ _ _, Nat.lt_succ_self _, Nat.ne_of_lt l_b1⟩ ?_
  clear f1 f2 b_b1 l_b1 ht' t'
  rintro t H n ⟨b2, f2, f3, b_b1, l_b1, b_b2, l_b2, d_b1_b2⟩
  refine Stk.run 1 (fun t H n => t 2 = .own b1 0 ∧ t 3 = .own b2 0 ∧ H b1 = some (.cells (c93 a0) 93) ∧ b1 < n ∧ H b2 = some (.cells (c93 a1) 93) ∧ b2 < n ∧ b1 ≠ b2) (fun J hJ => ?_) ?_
  · simp [-splice, f2, f3, b_b1, b_b2]
    exact hJ _ _ _ ⟨by simp [f2], by simp [f3], b_b1, l_b1, b_b2, l_b2, d_b1_b2⟩
  clear f2 f3 b_b1 l_b1 b_b2 l_b2 d_b1_b2
  rintro t H n ⟨f2, f3, b_b1, l_b1, b_b2, l_b2, d_b1_b2⟩
  refine Stk.on ?_
  refine Stk.sq ?_
  refine Stk.sq ?_
  refine Stk.rg ?_
  refine Stk.run 6 (fun t H n => t 2 = .own b1 0 ∧ t 3 = .own b2 0 ∧ t 11 = .sc (.bool (a0.Half != a1.Half)) ∧ H b1 = some (.cells (c93 a0) 93) ∧ b1 < n ∧ H b2 = some (.cells (c93 a1) 93) ∧ b2 < n ∧ b1 ≠ b2) (fun J hJ => ?_) ?_
  · simp [-splice, f2, f3, b_b1, b_b2, ld_93_1_3]
    exact hJ _ _ _ ⟨by simp [f2], by simp [f3], by simp [-splice, f2, f3, b_b1, b_b2, ld_93_1_3], b_b1, l_b1, b_b2, l_b2, d_b1_b2⟩
  clear f2 f3 b_b1 l_b1 b_b2 l_b2 d_b1_b2
  rintro t H n ⟨f2, f3, f11, b_b1, l_b1, b_b2, l_b2, d_b1_b2⟩
  refine Stk.jo 6 (fun t H n => t 2 = .own b1 0 ∧ t 3 = .own b2 0 ∧ t 17 = .sc (.bool ((a0.Half != a1.Half) || (!(a0.Up == a1.Up)))) ∧ H b1 = some (.cells (c93 a0) 93) ∧ b1 < n ∧ H b2 = some (.cells (c93 a1) 93) ∧ b2 < n ∧ b1 ≠ b2) (fun J1 hJ1 => ?_) ?_
  · rcases Bool.eq_false_or_eq_true (a0.Half != a1.Half) with hb1 | hb1
    · rw [hb1] at f11
      refine Stk.run 6 (fun t H n => t 2 = .own b1 0 ∧ t 3 = .own b2 0 ∧ t 17 = .sc (.bool true) ∧ H b1 = some (.cells (c93 a0) 93) ∧ b1 < n ∧ H b2 = some (.cells (c93 a1) 93) ∧ b2 < n ∧ b1 ≠ b2) (fun J hJ => ?_) ?_
      · simp [-splice, f2, f3, f11, b_b1, b_b2]
        exact hJ _ _ _ ⟨by simp [f2], by simp [f3], by simp [-splice, f2, f3, f11, b_b1, b_b2], b_b1, l_b1, b_b2, l_b2, d_b1_b2⟩
      clear f2 f3 f11 b_b1 l_b1 b_b2 l_b2 d_b1_b2
      rintro t H n ⟨f2, f3, f17, b_b1, l_b1, b_b2, l_b2, d_b1_b2⟩
      refine Stk.on ?_
      exact Stk.ln 0 (by decide) (hJ1 _ _ _ ⟨f2, f3, f17.trans (congrArg (fun q => AV.sc (.bool q)) (by rw [hb1]; rfl)), b_b1, l_b1, b_b2, l_b2, d_b1_b2⟩)
    · rw [hb1] at f11
      refine Stk.run 6 (fun t H n => t 2 = .own b1 0 ∧ t 3 = .own b2 0 ∧ t 17 = .sc (.bool (!(a0.Up == a1.Up))) ∧ H b1 = some (.cells (c93 a0) 93) ∧ b1 < n ∧ H b2 = some (.cells (c93 a1) 93) ∧ b2 < n ∧ b1 ≠ b2) (fun J hJ => ?_) ?_
      · simp [-splice, f2, f3, f11, b_b1, b_b2, ld_93_2_4, eqM4]
        exact hJ _ _ _ ⟨by simp [f2], by simp [f3], by simp [-splice, f2, f3, f11, b_b1, b_b2, ld_93_2_4, eqM4], b_b1, l_b1, b_b2, l_b2, d_b1_b2⟩
      clear f2 f3 f11 b_b1 l_b1 b_b2 l_b2 d_b1_b2
      rintro t H n ⟨f2, f3, f17, b_b1, l_b1, b_b2, l_b2, d_b1_b2⟩
      refine Stk.on ?_
      exact Stk.ln 0 (by decide) (hJ1 _ _ _ ⟨f2, f3, f17.trans (congrArg (fun q => AV.sc (.bool q)) (by rw [hb1]; rfl)), b_b1, l_b1, b_b2, l_b2, d_b1_b2⟩)
  clear f2 f3 f11 b_b1 l_b1 b_b2 l_b2 d_b1_b2
  rintro t H n ⟨f2, f3, f17, b_b1, l_b1, b_b2, l_b2, d_b1_b2⟩
  refine Stk.run 1 (fun t H n => t 2 = .own b1 0 ∧ t 3 = .own b2 0 ∧ t 18 = .sc (.bool ((a0.Half != a1.Half) || (!(a0.Up == a1.Up)))) ∧ H b1 = some (.cells (c93 a0) 93) ∧ b1 < n ∧ H b2 = some (.cells (c93 a1) 93) ∧ b2 < n ∧ b1 ≠ b2) (fun J hJ => ?_) ?_
  · simp [-splice, f2, f3, f17, b_b1, b_b2]
    exact hJ _ _ _ ⟨by simp [f2], by simp [f3], by simp [-splice, f2, f3, f17, b_b1, b_b2], b_b1, l_b1, b_b2, l_b2, d_b1_b2⟩
  clear f2 f3 f17 b_b1 l_b1 b_b2 l_b2 d_b1_b2
  rintro t H n ⟨f2, f3, f18, b_b1, l_b1, b_b2, l_b2, d_b1_b2⟩
  refine Stk.jo 6 (fun t H n => t 2 = .own b1 0 ∧ t 3 = .own b2 0 ∧ t 24 = .sc (.bool (((a0.Half != a1.Half) || (!(a0.Up == a1.Up))) || (a0.Next != a1.Next))) ∧ H b1 = some (.cells (c93 a0) 93) ∧ b1 < n ∧ H b2 = some (.cells (c93 a1) 93) ∧ b2 < n ∧ b1 ≠ b2) (fun J2 hJ2 => ?_) ?_
  · rcases Bool.eq_false_or_eq_true ((a0.Half != a1.Half) || (!(a0.Up == a1.Up))) with hb2 | hb2
    · rw [hb2] at f18
      refine Stk.run 6 (fun t H n => t 2 = .own b1 0 ∧ t 3 = .own b2 0 ∧ t 24 = .sc (.bool true) ∧ H b1 = some (.cells (c93 a0) 93) ∧ b1 < n ∧ H b2 = some (.cells (c93 a1) 93) ∧ b2 < n ∧ b1 ≠ b2) (fun J hJ => ?_) ?_
      · simp [-splice, f2, f3, f18, b_b1, b_b2]
        exact hJ _ _ _ ⟨by simp [f2], by simp [f3], by simp [-splice, f2, f3, f18, b_b1, b_b2], b_b1, l_b1, b_b2, l_b2, d_b1_b2⟩
      clear f2 f3 f18 b_b1 l_b1 b_b2 l_b2 d_b1_b2
      rintro t H n ⟨f2, f3, f24, b_b1, l_b1, b_b2, l_b2, d_b1_b2⟩
      refine Stk.on ?_
      exact Stk.ln 0 (by decide) (hJ2 _ _ _ ⟨f2, f3, f24.trans (congrArg (fun q => AV.sc (.bool q)) (by rw [hb2]; rfl)), b_b1, l_b1, b_b2, l_b2, d_b1_b2⟩)
    · rw [hb2] at f18
      refine Stk.run 6 (fun t H n => t 2 = .own b1 0 ∧ t 3 = .own b2 0 ∧ t 24 = .sc (.bool (a0.Next != a1.Next)) ∧ H b1 = some (.cells (c93 a0) 93) ∧ b1 < n ∧ H b2 = some (.cells (c93 a1) 93) ∧ b2 < n ∧ b1 ≠ b2) (fun J hJ => ?_) ?_
      · simp [-splice, f2, f3, f18, b_b1, b_b2, ld_93_3_3]
        exact hJ _ _ _ ⟨by simp [f2], by simp [f3], by simp [-splice, f2, f3, f18, b_b1, b_b2, ld_93_3_3], b_b1, l_b1, b_b2, l_b2, d_b1_b2⟩
      clear f2 f3 f18 b_b1 l_b1 b_b2 l_b2 d_b1_b2
      rintro t H n ⟨f2, f3, f24, b_b1, l_b1, b_b2, l_b2, d_b1_b2⟩
      refine Stk.on ?_
      exact Stk.ln 0 (by decide) (hJ2 _ _ _ ⟨f2, f3, f24.trans (congrArg (fun q => AV.sc (.bool q)) (by rw [hb2]; rfl)), b_b1, l_b1, b_b2, l_b2, d_b1_b2⟩)
  clear f2 f3 f18 b_b1 l_b1 b_b2 l_b2 d_b1_b2
  rintro t H n ⟨f2, f3, f24, b_b1, l_b1, b_b2, l_b2, d_b1_b2⟩
  refine Stk.run 1 (fun t H n => t 2 = .own b1 0 ∧ t 3 = .own b2 0 ∧ t 25 = .sc (.bool (((a0.Half != a1.Half) || (!(a0.Up == a1.Up))) || (a0.Next != a1.Next))) ∧ H b1 = some (.cells (c93 a0) 93) ∧ b1 < n ∧ H b2 = some (.cells (c93 a1) 93) ∧ b2 < n ∧ b1 ≠ b2) (fun J hJ => ?_) ?_
  · simp [-splice, f2, f3, f24, b_b1, b_b2]
    exact hJ _ _ _ ⟨by simp [f2], by simp [f3], by simp [-splice, f2, f3, f24, b_b1, b_b2], b_b1, l_b1, b_b2, l_b2, d_b1_b2⟩
  clear f2 f3 f24 b_b1 l_b1 b_b2 l_b2 d_b1_b2
  rintro t H n ⟨f2, f3, f25, b_b1, l_b1, b_b2, l_b2, d_b1_b2⟩
  refine Stk.jo 6 (fun t H n => t 2 = .own b1 0 ∧ t 3 = .own b2 0 ∧ t 31 = .sc (.bool ((((a0.Half != a1.Half) || (!(a0.Up == a1.Up))) || (a0.Next != a1.Next)) || (!(a0.On == a1.On)))) ∧ H b1 = some (.cells (c93 a0) 93) ∧ b1 < n ∧ H b2 = some (.cells (c93 a1) 93) ∧ b2 < n ∧ b1 ≠ b2) (fun J3 hJ3 => ?_) ?_
  · rcases Bool.eq_false_or_eq_true (((a0.Half != a1.Half) || (!(a0.Up == a1.Up))) || (a0.Next != a1.Next)) with hb3 | hb3
    · rw [hb3] at f25
      refine Stk.run 6 (fun t H n => t 2 = .own b1 0 ∧ t 3 = .own b2 0 ∧ t 31 = .sc (.bool true) ∧ H b1 = some (.cells (c93 a0) 93) ∧ b1 < n ∧ H b2 = some (.cells (c93 a1) 93) ∧ b2 < n ∧ b1 ≠ b2) (fun J hJ => ?_) ?_
      · simp [-splice, f2, f3, f25, b_b1, b_b2]
        exact hJ _ _ _ ⟨by simp [f2], by simp [f3], by simp [-splice, f2, f3, f25, b_b1, b_b2], b_b1, l_b1, b_b2, l_b2, d_b1_b2⟩
      clear f2 f3 f25 b_b1 l_b1 b_b2 l_b2 d_b1_b2
      rintro t H n ⟨f2, f3, f31, b_b1, l_b1, b_b2, l_b2, d_b1_b2⟩
      refine Stk.on ?_
      exact Stk.ln 0 (by decide) (hJ3 _ _ _ ⟨f2, f3, f31.trans (congrArg (fun q => AV.sc (.bool q)) (by rw [hb3]; rfl)), b_b1, l_b1, b_b2, l_b2, d_b1_b2⟩)
    · rw [hb3] at f25
      refine Stk.run 6 (fun t H n => t 2 = .own b1 0 ∧ t 3 = .own b2 0 ∧ t 31 = .sc (.bool (!(a0.On == a1.On))) ∧ H b1 = some (.cells (c93 a0) 93) ∧ b1 < n ∧ H b2 = some (.cells (c93 a1) 93) ∧ b2 < n ∧ b1 ≠ b2) (fun J hJ => ?_) ?_
      · simp [-splice, f2, f3, f25, b_b1, b_b2, ld_93_4_4, eqM4]
        exact hJ _ _ _ ⟨by simp [f2], by simp [f3], by simp [-splice, f2, f3, f25, b_b1, b_b2, ld_93_4_4, eqM4], b_b1, l_b1, b_b2, l_b2, d_b1_b2⟩
      clear f2 f3 f25 b_b1 l_b1 b_b2 l_b2 d_b1_b2
      rintro t H n ⟨f2, f3, f31, b_b1, l_b1, b_b2, l_b2, d_b1_b2⟩
      refine Stk.on ?_
      exact Stk.ln 0 (by decide) (hJ3 _ _ _ ⟨f2, f3, f31.trans (congrArg (fun q => AV.sc (.bool q)) (by rw [hb3]; rfl)), b_b1, l_b1, b_b2, l_b2, d_b1_b2⟩)
  clear f2 f3 f25 b_b1 l_b1 b_b2 l_b2 d_b1_b2
  rintro t H n ⟨f2, f3, f31, b_b1, l_b1, b_b2, l_b2, d_b1_b2⟩
  refine Stk.run 1 (fun t H n => t 2 = .own b1 0 ∧ t 3 = .own b2 0 ∧ t 32 = .sc (.bool ((((a0.Half != a1.Half) || (!(a0.Up == a1.Up))) || (a0.Next != a1.Next)) || (!(a0.On == a1.On)))) ∧ H b1 = some (.cells (c93 a0) 93) ∧ b1 < n ∧ H b2 = some (.cells (c93 a1) 93) ∧ b2 < n ∧ b1 ≠ b2) (fun J hJ => ?_) ?_
  · simp [-splice, f2, f3, f31, b_b1, b_b2]
    exact hJ _ _ _ ⟨by simp [f2], by simp [f3], by simp [-splice, f2, f3, f31, b_b1, b_b2], b_b1, l_b1, b_b2, l_b2, d_b1_b2⟩
  clear f2 f3 f31 b_b1 l_b1 b_b2 l_b2 d_b1_b2
  rintro t H n ⟨f2, f3, f32, b_b1, l_b1, b_b2, l_b2, d_b1_b2⟩
  refine Stk.jo 6 (fun t H n => t 2 = .own b1 0 ∧ t 3 = .own b2 0 ∧ t 38 = .sc (.bool (((((a0.Half != a1.Half) || (!(a0.Up == a1.Up))) || (a0.Next != a1.Next)) || (!(a0.On == a1.On))) || (a0.Scan != a1.Scan))) ∧ H b1 = some (.cells (c93 a0) 93) ∧ b1 < n ∧ H b2 = some (.cells (c93 a1) 93) ∧ b2 < n ∧ b1 ≠ b2) (fun J4 hJ4 => ?_) ?_
  · rcases Bool.eq_false_or_eq_true ((((a0.Half != a1.Half) || (!(a0.Up == a1.Up))) || (a0.Next != a1.Next)) || (!(a0.On == a1.On))) with hb4 | hb4
    · rw [hb4] at f32
      refine Stk.run 6 (fun t H n => t 2 = .own b1 0 ∧ t 3 = .own b2 0 ∧ t 38 = .sc (.bool true) ∧ H b1 = some (.cells (c93 a0) 93) ∧ b1 < n ∧ H b2 = some (.cells (c93 a1) 93) ∧ b2 < n ∧ b1 ≠ b2) (fun J hJ => ?_) ?_
      · simp [-splice, f2, f3, f32, b_b1, b_b2]
        exact hJ _ _ _ ⟨by simp [f2], by simp [f3], by simp [-splice, f2, f3, f32, b_b1, b_b2], b_b1, l_b1, b_b2, l_b2, d_b1_b2⟩
      clear f2 f3 f32 b_b1 l_b1 b_b2 l_b2 d_b1_b2
      rintro t H n ⟨f2, f3, f38, b_b1, l_b1, b_b2, l_b2, d_b1_b2⟩
      refine Stk.on ?_
      exact Stk.ln 0 (by decide) (hJ4 _ _ _ ⟨f2, f3, f38.trans (congrArg (fun q => AV.sc (.bool q)) (by rw [hb4]; rfl)), b_b1, l_b1, b_b2, l_b2, d_b1_b2⟩)
    · rw [hb4] at f32
      refine Stk.run 6 (fun t H n => t 2 = .own b1 0 ∧ t 3 = .own b2 0 ∧ t 38 = .sc (.bool (a0.Scan != a1.Scan)) ∧ H b1 = some (.cells (c93 a0) 93) ∧ b1 < n ∧ H b2 = some (.cells (c93 a1) 93) ∧ b2 < n ∧ b1 ≠ b2) (fun J hJ => ?_) ?_
      · simp [-splice, f2, f3, f32, b_b1, b_b2, ld_93_5_3]
        exact hJ _ _ _ ⟨by simp [f2], by simp [f3], by simp [-splice, f2, f3, f32, b_b1, b_b2, ld_93_5_3], b_b1, l_b1, b_b2, l_b2, d_b1_b2⟩
      clear f2 f3 f32 b_b1 l_b1 b_b2 l_b2 d_b1_b2
      rintro t H n ⟨f2, f3, f38, b_b1, l_b1, b_b2, l_b2, d_b1_b2⟩
      refine Stk.on ?_
      exact Stk.ln 0 (by decide) (hJ4 _ _ _ ⟨f2, f3, f38.trans (congrArg (fun q => AV.sc (.bool q)) (by rw [hb4]; rfl)), b_b1, l_b1, b_b2, l_b2, d_b1_b2⟩)
  clear f2 f3 f32 b_b1 l_b1 b_b2 l_b2 d_b1_b2
  rintro t H n ⟨f2, f3, f38, b_b1, l_b1, b_b2, l_b2, d_b1_b2⟩
  refine Stk.run 1 (fun t H n => t 2 = .own b1 0 ∧ t 3 = .own b2 0 ∧ t 39 = .sc (.bool (((((a0.Half != a1.Half) || (!(a0.Up == a1.Up))) || (a0.Next != a1.Next)) || (!(a0.On == a1.On))) || (a0.Scan != a1.Scan))) ∧ H b1 = some (.cells (c93 a0) 93) ∧ b1 < n ∧ H b2 = some (.cells (c93 a1) 93) ∧ b2 < n ∧ b1 ≠ b2) (fun J hJ => ?_) ?_
  · simp [-splice, f2, f3, f38, b_b1, b_b2]
    exact hJ _ _ _ ⟨by simp [f2], by simp [f3], by simp [-splice, f2, f3, f38, b_b1, b_b2], b_b1, l_b1, b_b2, l_b2, d_b1_b2⟩
  clear f2 f3 f38 b_b1 l_b1 b_b2 l_b2 d_b1_b2
  rintro t H n ⟨f2, f3, f39, b_b1, l_b1, b_b2, l_b2, d_b1_b2⟩
  refine Stk.jo 8 (fun t H n => t 2 = .own b1 0 ∧ t 3 = .own b2 0 ∧ t 47 = .sc (.bool ((((((a0.Half != a1.Half) || (!(a0.Up == a1.Up))) || (a0.Next != a1.Next)) || (!(a0.On == a1.On))) || (a0.Scan != a1.Scan)) || ((a0.Words.length : Int) != (a1.Words.length : Int)))) ∧ H b1 = some (.cells (c93 a0) 93) ∧ b1 < n ∧ H b2 = some (.cells (c93 a1) 93) ∧ b2 < n ∧ b1 ≠ b2) (fun J5 hJ5 => ?_) ?_
  · rcases Bool.eq_false_or_eq_true (((((a0.Half != a1.Half) || (!(a0.Up == a1.Up))) || (a0.Next != a1.Next)) || (!(a0.On == a1.On))) || (a0.Scan != a1.Scan)) with hb5 | hb5
    · rw [hb5] at f39
      refine Stk.run 8 (fun t H n => t 2 = .own b1 0 ∧ t 3 = .own b2 0 ∧ t 47 = .sc (.bool true) ∧ H b1 = some (.cells (c93 a0) 93) ∧ b1 < n ∧ H b2 = some (.cells (c93 a1) 93) ∧ b2 < n ∧ b1 ≠ b2) (fun J hJ => ?_) ?_
      · simp [-splice, f2, f3, f39, b_b1, b_b2]
        exact hJ _ _ _ ⟨by simp [f2], by simp [f3], by simp [-splice, f2, f3, f39, b_b1, b_b2], b_b1, l_b1, b_b2, l_b2, d_b1_b2⟩
      clear f2 f3 f39 b_b1 l_b1 b_b2 l_b2 d_b1_b2
      rintro t H n ⟨f2, f3, f47, b_b1, l_b1, b_b2, l_b2, d_b1_b2⟩
      refine Stk.on ?_
      exact Stk.ln 0 (by decide) (hJ5 _ _ _ ⟨f2, f3, f47.trans (congrArg (fun q => AV.sc (.bool q)) (by rw [hb5]; rfl)), b_b1, l_b1, b_b2, l_b2, d_b1_b2⟩)
    · rw [hb5] at f39
      refine Stk.run 8 (fun t H n => t 2 = .own b1 0 ∧ t 3 = .own b2 0 ∧ t 47 = .sc (.bool ((a0.Words.length : Int) != (a1.Words.length : Int))) ∧ H b1 = some (.cells (c93 a0) 93) ∧ b1 < n ∧ H b2 = some (.cells (c93 a1) 93) ∧ b2 < n ∧ b1 ≠ b2) (fun J hJ => ?_) ?_
      · simp [-splice, f2, f3, f39, b_b1, b_b2, ld_93_0_39]
        exact hJ _ _ _ ⟨by simp [f2], by simp [f3], by simp [-splice, f2, f3, f39, b_b1, b_b2, ld_93_0_39], b_b1, l_b1, b_b2, l_b2, d_b1_b2⟩
      clear f2 f3 f39 b_b1 l_b1 b_b2 l_b2 d_b1_b2
      rintro t H n ⟨f2, f3, f47, b_b1, l_b1, b_b2, l_b2, d_b1_b2⟩
      refine Stk.on ?_
      exact Stk.ln 0 (by decide) (hJ5 _ _ _ ⟨f2, f3, f47.trans (congrArg (fun q => AV.sc (.bool q)) (by rw [hb5]; rfl)), b_b1, l_b1, b_b2, l_b2, d_b1_b2⟩)
  clear f2 f3 f39 b_b1 l_b1 b_b2 l_b2 d_b1_b2
  rintro t H n ⟨f2, f3, f47, b_b1, l_b1, b_b2, l_b2, d_b1_b2⟩
  refine Stk.on ?_
  refine Stk.cond ((((((a0.Half != a1.Half) || (!(a0.Up == a1.Up))) || (a0.Next != a1.Next)) || (!(a0.On == a1.On))) || (a0.Scan != a1.Scan)) || ((a0.Words.length : Int) != (a1.Words.length : Int))) (by exact f47) (fun hb3 => ?_) (fun hb3 => ?_)
  · have h := cT hb3 h
    refine Stk.sq ?_
    refine Stk.rg ?_
    refine Stk.run 1 (fun t H n => t 4 = .sc (.bool false)) (fun J hJ => ?_) ?_
    · simp [-splice, f2, f3, f47, b_b1, b_b2]
      exact hJ _ _ _ (by simp [-splice, f2, f3, f47, b_b1, b_b2])
    clear f2 f3 f47 b_b1 l_b1 b_b2 l_b2 d_b1_b2
    rintro t H n f4
    refine Stk.on ?_
    refine Stk.rt ?_
    have hq := Option.some.inj h; subst hq
    exact (hr _ _ _ (.sc (.bool false)) ([]) (by simp [f4]) (.inr (.inr (.free (rfl))))).1
  · have h := cF hb3 h
    refine Stk.sk ?_
    refine Stk.sq ?_
    refine Stk.sq ?_
    refine Stk.rg ?_
    refine Stk.run 1 (fun t H n => t 2 = .own b1 0 ∧ t 3 = .own b2 0 ∧ t 5 = .sc (.int .i64 0) ∧ H b1 = some (.cells (c93 a0) 93) ∧ b1 < n ∧ H b2 = some (.cells (c93 a1) 93) ∧ b2 < n ∧ b1 ≠ b2) (fun J hJ => ?_) ?_
    · simp [-splice, f2, f3, f47, b_b1, b_b2]
      exact hJ _ _ _ ⟨by simp [f2], by simp [f3], by simp [-splice, f2, f3, f47, b_b1, b_b2], b_b1, l_b1, b_b2, l_b2, d_b1_b2⟩
    clear f2 f3 f47 b_b1 l_b1 b_b2 l_b2 d_b1_b2
    rintro t H n ⟨f2, f3, f5, b_b1, l_b1, b_b2, l_b2, d_b1_b2⟩
    refine Stk.on ?_
    refine Stk.bk ?_
    refine Stk.lo (fun μ t H n => ∃ v4 : Int, R16_Same_L0 F a0 a1 μ v4 = some r ∧ t 2 = .own b1 0 ∧ t 3 = .own b2 0 ∧ t 5 = .sc (.int .i64 v4) ∧ H b1 = some (.cells (c93 a0) 93) ∧ b1 < n ∧ H b2 = some (.cells (c93 a1) 93) ∧ b2 < n ∧ b1 ≠ b2) F ⟨0, h, f2, f3, f5, b_b1, l_b1, b_b2, l_b2, d_b1_b2⟩ ?_
    clear h f2 f3 f5 b_b1 l_b1 b_b2 l_b2 d_b1_b2
    rintro J6 hJ6 μ t H n ⟨v4, h, f2, f3, f5, b_b1, l_b1, b_b2, l_b2, d_b1_b2⟩
    cases μ with
    | zero => exact absurd h (by simp [R16_Same_L0])
    | succ μ =>
    rw [R16_Same_L0] at h
    refine Stk.sq ?_
    refine Stk.sq ?_
    refine Stk.rg ?_
    refine Stk.run 5 (fun t H n => t 2 = .own b1 0 ∧ t 3 = .own b2 0 ∧ t 5 = .sc (.int .i64 v4) ∧ t 52 = .sc (.bool (decide (v4 < (a0.Words.length : Int)))) ∧ H b1 = some (.cells (c93 a0) 93) ∧ b1 < n ∧ H b2 = some (.cells (c93 a1) 93) ∧ b2 < n ∧ b1 ≠ b2) (fun J hJ => ?_) ?_
    · simp [-splice, f2, f3, f5, b_b1, b_b2, ld_93_0_39]
      exact hJ _ _ _ ⟨by simp [f2], by simp [f3], by simp [f5], by simp [-splice, f2, f3, f5, b_b1, b_b2, ld_93_0_39], b_b1, l_b1, b_b2, l_b2, d_b1_b2⟩
    clear f2 f3 f5 b_b1 l_b1 b_b2 l_b2 d_b1_b2
    rintro t H n ⟨f2, f3, f5, f52, b_b1, l_b1, b_b2, l_b2, d_b1_b2⟩
    refine Stk.on ?_
    refine Stk.cond (decide (v4 < (a0.Words.length : Int))) (by exact f52) (fun hb6 => ?_) (fun hb6 => ?_)
    · have h := cT hb6 h
      refine Stk.sk ?_
      refine Stk.sq ?_
      refine Stk.bk ?_
      refine Stk.sq ?_
      obtain ⟨n0, hn0⟩ : ∃ m, m = n := ⟨n, rfl⟩
      have ln0 : n0 ≤ n := Nat.le_of_eq hn0
      refine Stk.rgD [.rd [], .rd [b1], .rd [], .rd [], .rd [], .rd [], .rd [b2], .rd [], .rd [], .rd [], .rd []] none (by kernel_rfl) (by rfl) rfl (by simp [below, hn0, l_b1, hn0, l_b2]) rfl ?_
      obtain ⟨x7, hx7, h⟩ := bnd h
      obtain ⟨i0x7, i1x7, i2x7, _⟩ := idx_ok hx7
      have ex7_0_40 : partOf T.T 40 (encs c40 a0.Words) (v4.toNat) = some (.sc (.int .u64 x7)) := by
          have e0 := part_elem0 (e := c40) (z := 1) (T := T.T) (ty := 40) T.t40 (by decide) (by decide) hx7 0 (by decide)
          (try simp only [Nat.mul_one, Nat.add_zero] at e0)
          exact e0.trans rfl
      obtain ⟨x8, hx8, h⟩ := bnd h
      obtain ⟨i0x8, i1x8, i2x8, _⟩ := idx_ok hx8
      have ex8_0_40 : partOf T.T 40 (encs c40 a1.Words) (v4.toNat) = some (.sc (.int .u64 x8)) := by
          have e0 := part_elem0 (e := c40) (z := 1) (T := T.T) (ty := 40) T.t40 (by decide) (by decide) hx8 0 (by decide)
          (try simp only [Nat.mul_one, Nat.add_zero] at e0)
          exact e0.trans rfl
      refine Stk.runD 11 (fun t H n => t 2 = .own b1 0 ∧ t 3 = .own b2 0 ∧ t 5 = .sc (.int .i64 v4) ∧ t 65 = .sc (.bool (x7 != x8)) ∧ H b1 = some (.cells (c93 a0) 93) ∧ b1 < n ∧ H b2 = some (.cells (c93 a1) 93) ∧ b2 < n ∧ b1 ≠ b2 ∧ n0 ≤ n) (fun J hJ => ?_) ?_
      · simp [-splice, f2, f3, f5, f52, b_b1, b_b2, ld_93_0_39, i0x7, i1x7, pd40, ex7_0_40, i0x8, i1x8, ex8_0_40]
        exact hJ _ _ _ ⟨by simp [f2], by simp [f3], by simp [f5], by simp [-splice, f2, f3, f5, f52, b_b1, b_b2, ld_93_0_39, i0x7, i1x7, pd40, ex7_0_40, i0x8, i1x8, ex8_0_40], b_b1, l_b1, b_b2, l_b2, d_b1_b2, ln0⟩
      clear f2 f3 f5 f52 b_b1 l_b1 b_b2 l_b2 d_b1_b2 ln0
      rintro t H n ⟨f2, f3, f5, f65, b_b1, l_b1, b_b2, l_b2, d_b1_b2, ln0⟩
      refine Stk.onD ?_
      refine Stk.cond (x7 != x8) (by exact f65) (fun hb9 => ?_) (fun hb9 => ?_)
      · have h := cT hb9 h
        refine Stk.sq ?_
        refine Stk.rg ?_
        refine Stk.run 1 (fun t H n => t 4 = .sc (.bool false)) (fun J hJ => ?_) ?_
        · simp [-splice, f2, f3, f5, f65, b_b1, b_b2]
          exact hJ _ _ _ (by simp [-splice, f2, f3, f5, f65, b_b1, b_b2])
        clear f2 f3 f5 f65 b_b1 l_b1 b_b2 l_b2 d_b1_b2 ln0
        rintro t H n f4
        refine Stk.on ?_
        refine Stk.rt ?_
        have hq := Option.some.inj h; subst hq
        exact (hr _ _ _ (.sc (.bool false)) ([]) (by simp [f4]) (.inr (.inr (.free (rfl))))).1
      · have h := cF hb9 h
        refine Stk.sk ?_
        refine Stk.bn ?_
        refine Stk.rg ?_
        refine Stk.run 3 (fun t H n => t 2 = .own b1 0 ∧ t 3 = .own b2 0 ∧ t 5 = .sc (.int .i64 (IntKind.i64.wrap (v4 + 1))) ∧ H b1 = some (.cells (c93 a0) 93) ∧ b1 < n ∧ H b2 = some (.cells (c93 a1) 93) ∧ b2 < n ∧ b1 ≠ b2) (fun J hJ => ?_) ?_
        · simp [-splice, f2, f3, f5, f65, b_b1, b_b2]
          exact hJ _ _ _ ⟨by simp [f2], by simp [f3], by simp [-splice, f2, f3, f5, f65, b_b1, b_b2], b_b1, l_b1, b_b2, l_b2, d_b1_b2⟩
        clear f2 f3 f5 f65 b_b1 l_b1 b_b2 l_b2 d_b1_b2 ln0
        rintro t H n ⟨f2, f3, f5, b_b1, l_b1, b_b2, l_b2, d_b1_b2⟩
        refine Stk.on ?_
        exact Stk.ln μ (Nat.lt_succ_self _) (hJ6 _ _ _ _ ⟨(IntKind.i64.wrap (v4 + 1)), h, f2, f3, f5, b_b1, l_b1, b_b2, l_b2, d_b1_b2⟩)
    · have h := cF hb6 h
      refine Stk.ex rfl ?_
      refine Stk.sq ?_
      refine Stk.rg ?_
      refine Stk.run 1 (fun t H n => t 4 = .sc (.bool true)) (fun J hJ => ?_) ?_
      · simp [-splice, f2, f3, f5, f52, b_b1, b_b2]
        exact hJ _ _ _ (by simp [-splice, f2, f3, f5, f52, b_b1, b_b2])
      clear f2 f3 f5 f52 b_b1 l_b1 b_b2 l_b2 d_b1_b2
      rintro t H n f4
      refine Stk.on ?_
      refine Stk.rt ?_
      have hq := Option.some.inj h; subst hq
      exact (hr _ _ _ (.sc (.bool true)) ([]) (by simp [f4]) (.inr (.inr (.free (rfl))))).1
theorem ok_L16_tiny (F : Nat) (a0 : api_Heap) (r : Bool) (h : L16_tiny F a0 = some r) : RunF Try.prog T.T 54 [.agg (c93 a0)] (.sc (.bool r)) := by
  rw [L16_tiny] at h
  refine RunF.z Try.func54 rfl rfl rfl rfl rfl (fun C hr => ?_)
  refine Stk.gen (fun t H n => t 0 = .agg (c93 a0)) (by simp) ?_
  rintro t H n f0
  refine Stk.sq ?_
  refine Stk.rg ?_
  refine Stk.om (mop_box T.t93 (cs := c93 a0) (by show partOk (t 0) = true; rw [f0]; rfl) (by show cellsOf (t 0) = _; rw [f0]; rfl)) (by simp [f0]) rfl (fun t' ht' => ?_)
  refine Stk.gen (fun t H n => ∃ b1, t 1 = .own b1 0 ∧ H b1 = some (.cells (c93 a0) 93) ∧ b1 < n) ⟨n, by simp [ht'], upd_same _ _ _, Nat.lt_succ_self _⟩ ?_
  clear f0 ht' t'
  rintro t H n ⟨b1, f1, b_b1, l_b1⟩
  refine Stk.run 1 (fun t H n => t 1 = .own b1 0 ∧ H b1 = some (.cells (c93 a0) 93) ∧ b1 < n) (fun J hJ => ?_) ?_
  · simp [-splice, f1, b_b1]
    exact hJ _ _ _ ⟨by simp [f1], b_b1, l_b1⟩
  clear f1 b_b1 l_b1
  rintro t H n ⟨f1, b_b1, l_b1⟩
  refine Stk.on ?_
  refine Stk.sq ?_
  refine Stk.rg ?_
  refine Stk.run 5 (fun t H n => t 2 = .sc (.bool (decide ((a0.Words.length : Int) ≤ 500)))) (fun J hJ => ?_) ?_
  · simp [-splice, f1, b_b1, ld_93_0_39]
    exact hJ _ _ _ (by simp [-splice, f1, b_b1, ld_93_0_39])
  clear f1 b_b1 l_b1
  rintro t H n f2
  refine Stk.on ?_
  refine Stk.rt ?_
  have hq := Option.some.inj h; subst hq
  exact (hr _ _ _ (.sc (.bool (decide ((a0.Words.length : Int) ≤ 500)))) ([]) (by simp [f2]) (.inr (.inr (.free (rfl))))).1
end Go.Proofs.Ytfflojbgikfbmaa.M
