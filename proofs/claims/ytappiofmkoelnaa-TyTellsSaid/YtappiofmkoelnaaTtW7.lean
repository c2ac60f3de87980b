/-
  The functions come to them.
-/
import Derived.Test.YtappiofmkoelnaaTtM
import Derived.Test.YtappiofmkoelnaaTtW6
namespace Go.Proofs.Ytappiofmkoelnaa.M
open Go.Proofs.YtappiofmkoelnaaW.Ah Go.Proofs.Ytappiofmkoelnaa
set_option linter.unusedVariables false
set_option linter.unusedSimpArgs false
set_option maxRecDepth 8000
attribute [local simp] T.t3 T.t4 T.t9 T.t22 T.t33 T.t40 List.range List.range.loop
attribute [-simp] appendAV fillAV
theorem okB_R07_Known (F : Nat) (ρ19 : (List api_Data) → api_Type → Option Bool) (hρ19 : ∀ a0 a1 r, ρ19 a0 a1 = some r → RunF Try.prog T.T 19 [.ssl (encs c32 a0) a0.length false, .agg (c40 a1)] (.sc (.bool r))) (a0 : (List api_Data)) (a1 : api_Type) (r : Bool) (h : R07_Known_B F ρ19 a0 a1 = some r) : RunF Try.prog T.T 19 [.ssl (encs c32 a0) a0.length false, .agg (c40 a1)] (.sc (.bool r)) := by
  rw [R07_Known_B] at h
  refine RunF.z Try.func19 rfl rfl rfl rfl rfl (fun C hr => ?_)
  refine Stk.gen (fun t H n => t 0 = .ssl (encs c32 a0) a0.length false ∧ t 1 = .agg (c40 a1)) ⟨by simp, by simp⟩ ?_
  rintro t H n ⟨f0, f1⟩
  refine Stk.sq ?_
  refine Stk.rg ?_
  refine Stk.om (mop_box T.t40 (cs := c40 a1) (by show partOk (t 1) = true; rw [f1]; rfl) (by show cellsOf (t 1) = _; rw [f1]; rfl)) (by simp [f0, f1]) rfl (fun t' ht' => ?_)
  refine Stk.gen (fun t H n => ∃ b1, t 0 = .ssl (encs c32 a0) a0.length false ∧ t 3 = .own b1 0 ∧ H b1 = some (.cells (c40 a1) 40) ∧ b1 < n) ⟨n, by simp [ht', f0], by simp [ht'], upd_same _ _ _, Nat.lt_succ_self _⟩ ?_
  clear f0 f1 ht' t'
  rintro t H n ⟨b1, f0, f3, b_b1, l_b1⟩
  refine Stk.run 1 (fun t H n => t 0 = .ssl (encs c32 a0) a0.length false ∧ t 3 = .own b1 0 ∧ H b1 = some (.cells (c40 a1) 40) ∧ b1 < n) (fun J hJ => ?_) ?_
  · simp [-splice, f0, f3, b_b1]
    exact hJ _ _ _ ⟨by simp [f0], by simp [f3], b_b1, l_b1⟩
  clear f0 f3 b_b1 l_b1
  rintro t H n ⟨f0, f3, b_b1, l_b1⟩
  refine Stk.on ?_
  refine Stk.sq ?_
  refine Stk.sq ?_
  refine Stk.rg ?_
  refine Stk.run 4 (fun t H n => t 0 = .ssl (encs c32 a0) a0.length false ∧ t 3 = .own b1 0 ∧ t 9 = .sc (.bool (a1.Kind == 2)) ∧ H b1 = some (.cells (c40 a1) 40) ∧ b1 < n) (fun J hJ => ?_) ?_
  · simp [-splice, f0, f3, b_b1, ld_40_0_3]
    exact hJ _ _ _ ⟨by simp [f0], by simp [f3], by simp [-splice, f0, f3, b_b1, ld_40_0_3], b_b1, l_b1⟩
  clear f0 f3 b_b1 l_b1
  rintro t H n ⟨f0, f3, f9, b_b1, l_b1⟩
  obtain ⟨K1, hK1, h⟩ := jnd h
  refine Stk.jo 6 (fun t H n => ∃ v2 : Bool, K1 v2 = some r ∧ t 0 = .ssl (encs c32 a0) a0.length false ∧ t 3 = .own b1 0 ∧ t 15 = .sc (.bool v2) ∧ H b1 = some (.cells (c40 a1) 40) ∧ b1 < n) (fun J1 hJ1 => ?_) ?_
  · rcases Bool.eq_false_or_eq_true (a1.Kind == 2) with hb1 | hb1
    · rw [hb1] at f9
      replace h := cT hb1 h
      refine Stk.run 3 (fun t H n => t 0 = .ssl (encs c32 a0) a0.length false ∧ t 3 = .own b1 0 ∧ t 9 = .sc (.bool true) ∧ t 10 = .ssl (encs c32 a0) a0.length false ∧ t 12 = .sc (.string a1.Name) ∧ H b1 = some (.cells (c40 a1) 40) ∧ b1 < n) (fun J hJ => ?_) ?_
      · simp [-splice, f0, f3, f9, b_b1, ld_40_1_9]
        exact hJ _ _ _ ⟨by simp [f0], by simp [f3], by simp [f9], by simp [-splice, f0, f3, f9, b_b1, ld_40_1_9], by simp [-splice, f0, f3, f9, b_b1, ld_40_1_9], b_b1, l_b1⟩
      clear f0 f3 f9 b_b1 l_b1
      rintro t H n ⟨f0, f3, f9, f10, f12, b_b1, l_b1⟩
      obtain ⟨x3, hx3, h⟩ := bnd h
      refine Stk.cv (g := 12) (args := [.ssl (encs c32 a0) a0.length false, .sc (.string a1.Name)]) (args' := [.ssl (encs c32 a0) a0.length false, .sc (.string a1.Name)]) (v := .sc (.int .i64 x3)) [] (ok_R07_Find F _ _ _ hx3) (by simp [f0, f3, f9, f10, f12]) rfl rfl (by simp [f0, f3, f9, f10, f12]) (.cons (.free (freeL_encs fr32 _)) (.cons (.free (rfl)) (.nil))) (.inl ⟨rfl, rfl⟩) (fun t' ht' => ?_)
      refine Stk.gen (fun t H n => t 0 = .ssl (encs c32 a0) a0.length false ∧ t 3 = .own b1 0 ∧ t 9 = .sc (.bool true) ∧ t 13 = .sc (.int .i64 x3) ∧ H b1 = some (.cells (c40 a1) 40) ∧ b1 < n) ⟨by simp [ht', f0], by simp [ht', f3], by simp [ht', f9], by simp [ht'], b_b1, l_b1⟩ ?_
      clear f0 f3 f9 f10 f12 b_b1 l_b1 ht' t'
      rintro t H n ⟨f0, f3, f9, f13, b_b1, l_b1⟩
      refine Stk.run 2 (fun t H n => t 0 = .ssl (encs c32 a0) a0.length false ∧ t 3 = .own b1 0 ∧ t 15 = .sc (.bool (decide (x3 < 0))) ∧ H b1 = some (.cells (c40 a1) 40) ∧ b1 < n) (fun J hJ => ?_) ?_
      · simp [-splice, f0, f3, f9, f13, b_b1]
        exact hJ _ _ _ ⟨by simp [f0], by simp [f3], by simp [-splice, f0, f3, f9, f13, b_b1], b_b1, l_b1⟩
      clear f0 f3 f9 f13 b_b1 l_b1
      rintro t H n ⟨f0, f3, f15, b_b1, l_b1⟩
      refine Stk.on ?_
      exact Stk.ln 0 (by decide) (hJ1 _ _ _ ⟨(decide (x3 < 0)), h, f0, f3, f15, b_b1, l_b1⟩)
    · rw [hb1] at f9
      replace h := cF hb1 h
      refine Stk.run 6 (fun t H n => t 0 = .ssl (encs c32 a0) a0.length false ∧ t 3 = .own b1 0 ∧ t 15 = .sc (.bool false) ∧ H b1 = some (.cells (c40 a1) 40) ∧ b1 < n) (fun J hJ => ?_) ?_
      · simp [-splice, f0, f3, f9, b_b1]
        exact hJ _ _ _ ⟨by simp [f0], by simp [f3], by simp [-splice, f0, f3, f9, b_b1], b_b1, l_b1⟩
      clear f0 f3 f9 b_b1 l_b1
      rintro t H n ⟨f0, f3, f15, b_b1, l_b1⟩
      refine Stk.on ?_
      exact Stk.ln 0 (by decide) (hJ1 _ _ _ ⟨false, h, f0, f3, f15, b_b1, l_b1⟩)
  clear h f0 f3 f9 b_b1 l_b1
  rintro t H n ⟨v2, h, f0, f3, f15, b_b1, l_b1⟩
  subst hK1
  refine Stk.on ?_
  refine Stk.cond v2 (by exact f15) (fun hb4 => ?_) (fun hb4 => ?_)
  · have h := cT hb4 h
    refine Stk.sq ?_
    refine Stk.rg ?_
    refine Stk.run 1 (fun t H n => t 4 = .sc (.bool false)) (fun J hJ => ?_) ?_
    · simp [-splice, f0, f3, f15, b_b1]
      exact hJ _ _ _ (by simp [-splice, f0, f3, f15, b_b1])
    clear f0 f3 f15 b_b1 l_b1
    rintro t H n f4
    refine Stk.on ?_
    refine Stk.rt ?_
    have hq := Option.some.inj h; subst hq
    exact (hr _ _ _ (.sc (.bool false)) ([]) (by simp [f4]) (.inr (.inr (.free (rfl))))).1
  · have h := cF hb4 h
    refine Stk.sk ?_
    refine Stk.sq ?_
    refine Stk.sq ?_
    refine Stk.rg ?_
    refine Stk.run 1 (fun t H n => t 0 = .ssl (encs c32 a0) a0.length false ∧ t 3 = .own b1 0 ∧ t 5 = .sc (.int .i64 0) ∧ H b1 = some (.cells (c40 a1) 40) ∧ b1 < n) (fun J hJ => ?_) ?_
    · simp [-splice, f0, f3, f15, b_b1]
      exact hJ _ _ _ ⟨by simp [f0], by simp [f3], by simp [-splice, f0, f3, f15, b_b1], b_b1, l_b1⟩
    clear f0 f3 f15 b_b1 l_b1
    rintro t H n ⟨f0, f3, f5, b_b1, l_b1⟩
    refine Stk.on ?_
    refine Stk.bk ?_
    refine Stk.lo (fun μ t H n => ∃ v5 : Int, R07_Known_L0 F ρ19 a0 a1 μ v5 = some r ∧ t 0 = .ssl (encs c32 a0) a0.length false ∧ t 3 = .own b1 0 ∧ t 5 = .sc (.int .i64 v5) ∧ H b1 = some (.cells (c40 a1) 40) ∧ b1 < n) F ⟨0, h, f0, f3, f5, b_b1, l_b1⟩ ?_
    clear h f0 f3 f5 b_b1 l_b1
    rintro J2 hJ2 μ t H n ⟨v5, h, f0, f3, f5, b_b1, l_b1⟩
    cases μ with
    | zero => exact absurd h (by simp [R07_Known_L0])
    | succ μ =>
    rw [R07_Known_L0] at h
    refine Stk.sq ?_
    refine Stk.sq ?_
    refine Stk.rg ?_
    refine Stk.run 5 (fun t H n => t 0 = .ssl (encs c32 a0) a0.length false ∧ t 3 = .own b1 0 ∧ t 5 = .sc (.int .i64 v5) ∧ t 20 = .sc (.bool (decide (v5 < (a1.Parts.length : Int)))) ∧ H b1 = some (.cells (c40 a1) 40) ∧ b1 < n) (fun J hJ => ?_) ?_
    · simp [-splice, f0, f3, f5, b_b1, ld_40_2_33]
      exact hJ _ _ _ ⟨by simp [f0], by simp [f3], by simp [f5], by simp [-splice, f0, f3, f5, b_b1, ld_40_2_33], b_b1, l_b1⟩
    clear f0 f3 f5 b_b1 l_b1
    rintro t H n ⟨f0, f3, f5, f20, b_b1, l_b1⟩
    refine Stk.on ?_
    refine Stk.cond (decide (v5 < (a1.Parts.length : Int))) (by exact f20) (fun hb7 => ?_) (fun hb7 => ?_)
    · have h := cT hb7 h
      refine Stk.sk ?_
      refine Stk.sq ?_
      refine Stk.bk ?_
      refine Stk.sq ?_
      refine Stk.rg ?_
      obtain ⟨x8, hx8, h⟩ := bnd h
      obtain ⟨i0x8, i1x8, i2x8, _⟩ := idx_ok hx8
      have ex8_0_40 : partOf T.T 40 (encs c40 a1.Parts) (v5.toNat * 3) = some (.agg (c40 x8)) := by
          have e0 := part_elem0 (e := c40) (z := 3) (T := T.T) (ty := 40) T.t40 (by decide) (by decide) hx8 0 (by decide)
          (try simp only [Nat.mul_one, Nat.add_zero] at e0)
          exact e0.trans (ld_40_0_40 _)
      refine Stk.run 6 (fun t H n => t 0 = .ssl (encs c32 a0) a0.length false ∧ t 3 = .own b1 0 ∧ t 5 = .sc (.int .i64 v5) ∧ t 23 = .ssl (encs c32 a0) a0.length false ∧ t 28 = .agg (c40 x8) ∧ H b1 = some (.cells (c40 a1) 40) ∧ b1 < n) (fun J hJ => ?_) ?_
      · simp [-splice, f0, f3, f5, f20, b_b1, ld_40_2_33, i0x8, i1x8, pd40, ex8_0_40]
        exact hJ _ _ _ ⟨by simp [f0], by simp [f3], by simp [f5], by simp [-splice, f0, f3, f5, f20, b_b1, ld_40_2_33, i0x8, i1x8, pd40, ex8_0_40], by simp [-splice, f0, f3, f5, f20, b_b1, ld_40_2_33, i0x8, i1x8, pd40, ex8_0_40], b_b1, l_b1⟩
      clear f0 f3 f5 f20 b_b1 l_b1
      rintro t H n ⟨f0, f3, f5, f23, f28, b_b1, l_b1⟩
      obtain ⟨x9, hx9, h⟩ := bnd h
      refine Stk.cv (g := 19) (args := [.ssl (encs c32 a0) a0.length false, .agg (c40 x8)]) (args' := [.ssl (encs c32 a0) a0.length false, .agg (c40 x8)]) (v := .sc (.bool x9)) [] (hρ19 _ _ _ hx9) (by simp [f0, f3, f5, f23, f28]) rfl rfl (by simp [f0, f3, f5, f23, f28]) (.cons (.free (freeL_encs fr32 _)) (.cons (.free (fr40 _)) (.nil))) (.inl ⟨rfl, rfl⟩) (fun t' ht' => ?_)
      refine Stk.gen (fun t H n => t 0 = .ssl (encs c32 a0) a0.length false ∧ t 3 = .own b1 0 ∧ t 5 = .sc (.int .i64 v5) ∧ t 29 = .sc (.bool x9) ∧ H b1 = some (.cells (c40 a1) 40) ∧ b1 < n) ⟨by simp [ht', f0], by simp [ht', f3], by simp [ht', f5], by simp [ht'], b_b1, l_b1⟩ ?_
      clear f0 f3 f5 f23 f28 b_b1 l_b1 ht' t'
      rintro t H n ⟨f0, f3, f5, f29, b_b1, l_b1⟩
      refine Stk.run 1 (fun t H n => t 0 = .ssl (encs c32 a0) a0.length false ∧ t 3 = .own b1 0 ∧ t 5 = .sc (.int .i64 v5) ∧ t 30 = .sc (.bool (!x9)) ∧ H b1 = some (.cells (c40 a1) 40) ∧ b1 < n) (fun J hJ => ?_) ?_
      · simp [-splice, f0, f3, f5, f29, b_b1]
        exact hJ _ _ _ ⟨by simp [f0], by simp [f3], by simp [f5], by simp [-splice, f0, f3, f5, f29, b_b1], b_b1, l_b1⟩
      clear f0 f3 f5 f29 b_b1 l_b1
      rintro t H n ⟨f0, f3, f5, f30, b_b1, l_b1⟩
      refine Stk.on ?_
      refine Stk.cond (!x9) (by exact f30) (fun hb10 => ?_) (fun hb10 => ?_)
      · have h := cT hb10 h
        refine Stk.sq ?_
        refine Stk.rg ?_
        refine Stk.run 1 (fun t H n => t 4 = .sc (.bool false)) (fun J hJ => ?_) ?_
        · simp [-splice, f0, f3, f5, f30, b_b1]
          exact hJ _ _ _ (by simp [-splice, f0, f3, f5, f30, b_b1])
        clear f0 f3 f5 f30 b_b1 l_b1
        rintro t H n f4
        refine Stk.on ?_
        refine Stk.rt ?_
        have hq := Option.some.inj h; subst hq
        exact (hr _ _ _ (.sc (.bool false)) ([]) (by simp [f4]) (.inr (.inr (.free (rfl))))).1
      · have h := cF hb10 h
        refine Stk.sk ?_
        refine Stk.bn ?_
        refine Stk.rg ?_
        refine Stk.run 3 (fun t H n => t 0 = .ssl (encs c32 a0) a0.length false ∧ t 3 = .own b1 0 ∧ t 5 = .sc (.int .i64 (IntKind.i64.wrap (v5 + 1))) ∧ H b1 = some (.cells (c40 a1) 40) ∧ b1 < n) (fun J hJ => ?_) ?_
        · simp [-splice, f0, f3, f5, f30, b_b1]
          exact hJ _ _ _ ⟨by simp [f0], by simp [f3], by simp [-splice, f0, f3, f5, f30, b_b1], b_b1, l_b1⟩
        clear f0 f3 f5 f30 b_b1 l_b1
        rintro t H n ⟨f0, f3, f5, b_b1, l_b1⟩
        refine Stk.on ?_
        exact Stk.ln μ (Nat.lt_succ_self _) (hJ2 _ _ _ _ ⟨(IntKind.i64.wrap (v5 + 1)), h, f0, f3, f5, b_b1, l_b1⟩)
    · have h := cF hb7 h
      refine Stk.ex rfl ?_
      refine Stk.sq ?_
      refine Stk.rg ?_
      refine Stk.run 1 (fun t H n => t 4 = .sc (.bool true)) (fun J hJ => ?_) ?_
      · simp [-splice, f0, f3, f5, f20, b_b1]
        exact hJ _ _ _ (by simp [-splice, f0, f3, f5, f20, b_b1])
      clear f0 f3 f5 f20 b_b1 l_b1
      rintro t H n f4
      refine Stk.on ?_
      refine Stk.rt ?_
      have hq := Option.some.inj h; subst hq
      exact (hr _ _ _ (.sc (.bool true)) ([]) (by simp [f4]) (.inr (.inr (.free (rfl))))).1
theorem okG_R07_Known : ∀ F : Nat, (∀ (a0 : (List api_Data)) (a1 : api_Type) (r : Bool), R07_Known F a0 a1 = some r → RunF Try.prog T.T 19 [.ssl (encs c32 a0) a0.length false, .agg (c40 a1)] (.sc (.bool r)))
  | 0 => (fun a0 a1 r h => by rw [R07_Known] at h; cases h)
  | F + 1 => (fun a0 a1 r h => okB_R07_Known F (R07_Known F) (okG_R07_Known F) a0 a1 r (by rw [R07_Known] at h; exact h))
theorem ok_R07_Known (F : Nat) (a0 : (List api_Data)) (a1 : api_Type) (r : Bool) (h : R07_Known F a0 a1 = some r) : RunF Try.prog T.T 19 [.ssl (encs c32 a0) a0.length false, .agg (c40 a1)] (.sc (.bool r)) := (okG_R07_Known F) a0 a1 r h

theorem ok_slices_EqualFunc_api_Type_api_Type_api_Type_api_Type (F : Nat) (a0 : (List api_Type)) (a1 : (List api_Type)) (φ2 : api_Type → api_Type → Option Bool) (g2 : FuncId) (first2 caps2 : List AV) (fr2 : freeL first2 = true ∧ freeL caps2 = true) (hφ2 : ∀ y0 y1 r, φ2 y0 y1 = some r → RunF Try.prog T.T g2 (first2 ++ [.agg (c40 y0), .agg (c40 y1)] ++ caps2) (.sc (.bool r))) (r : Bool) (h : slices_EqualFunc_api_Type_api_Type_api_Type_api_Type F a0 a1 φ2 = some r) : RunF Try.prog T.T 35 [.ssl (encs c40 a0) a0.length false, .ssl (encs c40 a1) a1.length false, .fn (.func g2) first2 caps2] (.sc (.bool r)) := by
  rw [slices_EqualFunc_api_Type_api_Type_api_Type_api_Type] at h
  refine RunF.z Try.func35 rfl rfl rfl rfl rfl (fun C hr => ?_)
  refine Stk.gen (fun t H n => t 0 = .ssl (encs c40 a0) a0.length false ∧ t 1 = .ssl (encs c40 a1) a1.length false ∧ t 2 = .fn (.func g2) first2 caps2) ⟨by simp, by simp, by simp⟩ ?_
  rintro t H n ⟨f0, f1, f2⟩
  refine Stk.sq ?_
  refine Stk.rg ?_
  refine Stk.run 1 (fun t H n => t 0 = .ssl (encs c40 a0) a0.length false ∧ t 1 = .ssl (encs c40 a1) a1.length false ∧ t 2 = .fn (.func g2) first2 caps2) (fun J hJ => ?_) ?_
  · simp [-splice, f0, f1, f2]
    exact hJ _ _ _ ⟨by simp [f0], by simp [f1], by simp [f2]⟩
  clear f0 f1 f2
  rintro t H n ⟨f0, f1, f2⟩
  refine Stk.on ?_
  refine Stk.sq ?_
  refine Stk.sq ?_
  refine Stk.rg ?_
  refine Stk.run 5 (fun t H n => t 0 = .ssl (encs c40 a0) a0.length false ∧ t 1 = .ssl (encs c40 a1) a1.length false ∧ t 2 = .fn (.func g2) first2 caps2 ∧ t 14 = .sc (.bool ((a0.length : Int) != (a1.length : Int)))) (fun J hJ => ?_) ?_
  · simp [-splice, f0, f1, f2]
    exact hJ _ _ _ ⟨by simp [f0], by simp [f1], by simp [f2], by simp [-splice, f0, f1, f2]⟩
  clear f0 f1 f2
  rintro t H n ⟨f0, f1, f2, f14⟩
  refine Stk.on ?_
  refine Stk.cond ((a0.length : Int) != (a1.length : Int)) (by exact f14) (fun hb1 => ?_) (fun hb1 => ?_)
  · have h := cT hb1 h
    refine Stk.sq ?_
    refine Stk.rg ?_
    refine Stk.run 1 (fun t H n => t 6 = .sc (.bool false)) (fun J hJ => ?_) ?_
    · simp [-splice, f0, f1, f2, f14]
      exact hJ _ _ _ (by simp [-splice, f0, f1, f2, f14])
    clear f0 f1 f2 f14
    rintro t H n f6
    refine Stk.on ?_
    refine Stk.rt ?_
    have hq := Option.some.inj h; subst hq
    exact (hr _ _ _ (.sc (.bool false)) ([]) (by simp [f6]) (.inr (.inr (.free (rfl))))).1
  · have h := cF hb1 h
    refine Stk.sk ?_
    refine Stk.sq ?_
    refine Stk.sq ?_
    refine Stk.rg ?_
    refine Stk.run 3 (fun t H n => t 1 = .ssl (encs c40 a1) a1.length false ∧ t 2 = .fn (.func g2) first2 caps2 ∧ t 15 = .ssl (encs c40 a0) a0.length false ∧ t 16 = .sc (.int .i64 (a0.length : Int)) ∧ t 17 = .sc (.int .i64 0)) (fun J hJ => ?_) ?_
    · simp [-splice, f0, f1, f2, f14]
      exact hJ _ _ _ ⟨by simp [f1], by simp [f2], by simp [-splice, f0, f1, f2, f14], by simp [-splice, f0, f1, f2, f14], by simp [-splice, f0, f1, f2, f14]⟩
    clear f0 f1 f2 f14
    rintro t H n ⟨f1, f2, f15, f16, f17⟩
    refine Stk.on ?_
    refine Stk.bk ?_
    refine Stk.lo (fun μ t H n => ∃ v2 : Int, slices_EqualFunc_api_Type_api_Type_api_Type_api_Type_L0 F a0 a1 φ2 μ v2 = some r ∧ t 1 = .ssl (encs c40 a1) a1.length false ∧ t 2 = .fn (.func g2) first2 caps2 ∧ t 15 = .ssl (encs c40 a0) a0.length false ∧ t 16 = .sc (.int .i64 (a0.length : Int)) ∧ t 17 = .sc (.int .i64 v2)) F ⟨0, h, f1, f2, f15, f16, f17⟩ ?_
    clear h f1 f2 f15 f16 f17
    rintro J1 hJ1 μ t H n ⟨v2, h, f1, f2, f15, f16, f17⟩
    cases μ with
    | zero => exact absurd h (by simp [slices_EqualFunc_api_Type_api_Type_api_Type_api_Type_L0])
    | succ μ =>
    rw [slices_EqualFunc_api_Type_api_Type_api_Type_api_Type_L0] at h
    refine Stk.sq ?_
    refine Stk.rg ?_
    refine Stk.run 1 (fun t H n => t 1 = .ssl (encs c40 a1) a1.length false ∧ t 2 = .fn (.func g2) first2 caps2 ∧ t 15 = .ssl (encs c40 a0) a0.length false ∧ t 16 = .sc (.int .i64 (a0.length : Int)) ∧ t 17 = .sc (.int .i64 v2) ∧ t 18 = .sc (.bool (decide (v2 < (a0.length : Int))))) (fun J hJ => ?_) ?_
    · simp [-splice, f1, f2, f15, f16, f17]
      exact hJ _ _ _ ⟨by simp [f1], by simp [f2], by simp [f15], by simp [f16], by simp [f17], by simp [-splice, f1, f2, f15, f16, f17]⟩
    clear f1 f2 f15 f16 f17
    rintro t H n ⟨f1, f2, f15, f16, f17, f18⟩
    refine Stk.on ?_
    refine Stk.sq ?_
    refine Stk.cond (decide (v2 < (a0.length : Int))) (by exact f18) (fun hb4 => ?_) (fun hb4 => ?_)
    · have h := cT hb4 h
      refine Stk.sk ?_
      refine Stk.sq ?_
      refine Stk.bk ?_
      refine Stk.sq ?_
      refine Stk.rg ?_
      obtain ⟨x5, hx5, h⟩ := bnd h
      obtain ⟨i0x5, i1x5, i2x5, _⟩ := idx_ok hx5
      have ex5_0_40 : partOf T.T 40 (encs c40 a0) (v2.toNat * 3) = some (.agg (c40 x5)) := by
          have e0 := part_elem0 (e := c40) (z := 3) (T := T.T) (ty := 40) T.t40 (by decide) (by decide) hx5 0 (by decide)
          (try simp only [Nat.mul_one, Nat.add_zero] at e0)
          exact e0.trans (ld_40_0_40 _)
      refine Stk.run 3 (fun t H n => t 1 = .ssl (encs c40 a1) a1.length false ∧ t 2 = .fn (.func g2) first2 caps2 ∧ t 15 = .ssl (encs c40 a0) a0.length false ∧ t 16 = .sc (.int .i64 (a0.length : Int)) ∧ t 17 = .sc (.int .i64 v2) ∧ t 19 = .sc (.int .i64 v2) ∧ t 21 = .agg (c40 x5)) (fun J hJ => ?_) ?_
      · simp [-splice, f1, f2, f15, f16, f17, f18, i0x5, i1x5, pd40, ex5_0_40]
        exact hJ _ _ _ ⟨by simp [f1], by simp [f2], by simp [f15], by simp [f16], by simp [f17], by simp [-splice, f1, f2, f15, f16, f17, f18, i0x5, i1x5, pd40, ex5_0_40], by simp [-splice, f1, f2, f15, f16, f17, f18, i0x5, i1x5, pd40, ex5_0_40]⟩
      clear f1 f2 f15 f16 f17 f18
      rintro t H n ⟨f1, f2, f15, f16, f17, f19, f21⟩
      refine Stk.oz T.t40 (cs := c40 (api_Type.mk 0 ⟨#[]⟩ [])) (by rw [u40]; rfl) rfl (by simp [f1, f2, f15, f16, f17, f19, f21]) rfl (fun t' ht' => ?_)
      refine Stk.gen (fun t H n => ∃ b6, t 1 = .ssl (encs c40 a1) a1.length false ∧ t 2 = .fn (.func g2) first2 caps2 ∧ t 8 = .own b6 0 ∧ t 15 = .ssl (encs c40 a0) a0.length false ∧ t 16 = .sc (.int .i64 (a0.length : Int)) ∧ t 17 = .sc (.int .i64 v2) ∧ t 19 = .sc (.int .i64 v2) ∧ t 21 = .agg (c40 x5) ∧ H b6 = some (.cells (c40 (api_Type.mk 0 ⟨#[]⟩ [])) 40) ∧ b6 < n) ⟨n, by simp [ht', f1], by simp [ht', f2], by simp [ht'], by simp [ht', f15], by simp [ht', f16], by simp [ht', f17], by simp [ht', f19], by simp [ht', f21], upd_same _ _ _, Nat.lt_succ_self _⟩ ?_
      clear f1 f2 f15 f16 f17 f19 f21 ht' t'
      rintro t H n ⟨b6, f1, f2, f8, f15, f16, f17, f19, f21, b_b6, l_b6⟩
      refine Stk.run 1 (fun t H n => t 1 = .ssl (encs c40 a1) a1.length false ∧ t 2 = .fn (.func g2) first2 caps2 ∧ t 7 = .sc (.int .i64 v2) ∧ t 8 = .own b6 0 ∧ t 15 = .ssl (encs c40 a0) a0.length false ∧ t 16 = .sc (.int .i64 (a0.length : Int)) ∧ t 17 = .sc (.int .i64 v2) ∧ t 21 = .agg (c40 x5) ∧ H b6 = some (.cells (c40 (api_Type.mk 0 ⟨#[]⟩ [])) 40) ∧ b6 < n) (fun J hJ => ?_) ?_
      · simp [-splice, f1, f2, f8, f15, f16, f17, f19, f21, b_b6]
        exact hJ _ _ _ ⟨by simp [f1], by simp [f2], by simp [-splice, f1, f2, f8, f15, f16, f17, f19, f21, b_b6], by simp [f8], by simp [f15], by simp [f16], by simp [f17], by simp [f21], b_b6, l_b6⟩
      clear f1 f2 f8 f15 f16 f17 f19 f21 b_b6 l_b6
      rintro t H n ⟨f1, f2, f7, f8, f15, f16, f17, f21, b_b6, l_b6⟩
      refine Stk.om (mop_store (z := 3) rfl f8 b_b6 f21 (len40 _) (by rw [len40]; decide) (ok40 _) (st_40_0_40 _ _)) (by simp [f1, f2, f7, f8, f15, f16, f17, f21]) rfl (fun t' ht' => ?_)
      refine Stk.gen (fun t H n => t 1 = .ssl (encs c40 a1) a1.length false ∧ t 2 = .fn (.func g2) first2 caps2 ∧ t 7 = .sc (.int .i64 v2) ∧ t 8 = .own b6 0 ∧ t 15 = .ssl (encs c40 a0) a0.length false ∧ t 16 = .sc (.int .i64 (a0.length : Int)) ∧ t 17 = .sc (.int .i64 v2) ∧ H b6 = some (.cells (c40 x5) 40) ∧ b6 < n) ⟨by simp [ht', f1], by simp [ht', f2], by simp [ht', f7], by simp [ht', f8], by simp [ht', f15], by simp [ht', f16], by simp [ht', f17], upd_same _ _ _, l_b6⟩ ?_
      clear f1 f2 f7 f8 f15 f16 f17 f21 b_b6 l_b6 ht' t'
      rintro t H n ⟨f1, f2, f7, f8, f15, f16, f17, b_b6, l_b6⟩
      refine Stk.on ?_
      refine Stk.sq ?_
      refine Stk.rg ?_
      obtain ⟨x7, hx7, h⟩ := bnd h
      obtain ⟨i0x7, i1x7, i2x7, _⟩ := idx_ok hx7
      have ex7_0_40 : partOf T.T 40 (encs c40 a1) (v2.toNat * 3) = some (.agg (c40 x7)) := by
          have e0 := part_elem0 (e := c40) (z := 3) (T := T.T) (ty := 40) T.t40 (by decide) (by decide) hx7 0 (by decide)
          (try simp only [Nat.mul_one, Nat.add_zero] at e0)
          exact e0.trans (ld_40_0_40 _)
      refine Stk.run 4 (fun t H n => t 1 = .ssl (encs c40 a1) a1.length false ∧ t 2 = .fn (.func g2) first2 caps2 ∧ t 8 = .own b6 0 ∧ t 15 = .ssl (encs c40 a0) a0.length false ∧ t 16 = .sc (.int .i64 (a0.length : Int)) ∧ t 17 = .sc (.int .i64 v2) ∧ t 25 = .agg (c40 x7) ∧ H b6 = some (.cells (c40 x5) 40) ∧ b6 < n) (fun J hJ => ?_) ?_
      · simp [-splice, f1, f2, f7, f8, f15, f16, f17, b_b6, i0x7, i1x7, pd40, ex7_0_40]
        exact hJ _ _ _ ⟨by simp [f1], by simp [f2], by simp [f8], by simp [f15], by simp [f16], by simp [f17], by simp [-splice, f1, f2, f7, f8, f15, f16, f17, b_b6, i0x7, i1x7, pd40, ex7_0_40], b_b6, l_b6⟩
      clear f1 f2 f7 f8 f15 f16 f17 b_b6 l_b6
      rintro t H n ⟨f1, f2, f8, f15, f16, f17, f25, b_b6, l_b6⟩
      refine Stk.oz T.t40 (cs := c40 (api_Type.mk 0 ⟨#[]⟩ [])) (by rw [u40]; rfl) rfl (by simp [f1, f2, f8, f15, f16, f17, f25]) rfl (fun t' ht' => ?_)
      refine Stk.gen (fun t H n => ∃ b8, t 1 = .ssl (encs c40 a1) a1.length false ∧ t 2 = .fn (.func g2) first2 caps2 ∧ t 8 = .own b6 0 ∧ t 9 = .own b8 0 ∧ t 15 = .ssl (encs c40 a0) a0.length false ∧ t 16 = .sc (.int .i64 (a0.length : Int)) ∧ t 17 = .sc (.int .i64 v2) ∧ t 25 = .agg (c40 x7) ∧ H b6 = some (.cells (c40 x5) 40) ∧ b6 < n ∧ H b8 = some (.cells (c40 (api_Type.mk 0 ⟨#[]⟩ [])) 40) ∧ b8 < n ∧ b6 ≠ b8) ⟨n, by simp [ht', f1], by simp [ht', f2], by simp [ht', f8], by simp [ht'], by simp [ht', f15], by simp [ht', f16], by simp [ht', f17], by simp [ht', f25], (upd_ne _ _ (Nat.ne_of_lt l_b6)).trans b_b6, Nat.lt_succ_of_lt l_b6, upd_same _ _ _, Nat.lt_succ_self _, Nat.ne_of_lt l_b6⟩ ?_
      clear f1 f2 f8 f15 f16 f17 f25 b_b6 l_b6 ht' t'
      rintro t H n ⟨b8, f1, f2, f8, f9, f15, f16, f17, f25, b_b6, l_b6, b_b8, l_b8, d_b6_b8⟩
      refine Stk.om (mop_store (z := 3) rfl f9 b_b8 f25 (len40 _) (by rw [len40]; decide) (ok40 _) (st_40_0_40 _ _)) (by simp [f1, f2, f8, f9, f15, f16, f17, f25]) rfl (fun t' ht' => ?_)
      refine Stk.gen (fun t H n => t 1 = .ssl (encs c40 a1) a1.length false ∧ t 2 = .fn (.func g2) first2 caps2 ∧ t 8 = .own b6 0 ∧ t 9 = .own b8 0 ∧ t 15 = .ssl (encs c40 a0) a0.length false ∧ t 16 = .sc (.int .i64 (a0.length : Int)) ∧ t 17 = .sc (.int .i64 v2) ∧ H b6 = some (.cells (c40 x5) 40) ∧ b6 < n ∧ H b8 = some (.cells (c40 x7) 40) ∧ b8 < n ∧ b6 ≠ b8) ⟨by simp [ht', f1], by simp [ht', f2], by simp [ht', f8], by simp [ht', f9], by simp [ht', f15], by simp [ht', f16], by simp [ht', f17], (upd_ne _ _ d_b6_b8).trans b_b6, l_b6, upd_same _ _ _, l_b8, d_b6_b8⟩ ?_
      clear f1 f2 f8 f9 f15 f16 f17 f25 b_b6 l_b6 b_b8 l_b8 d_b6_b8 ht' t'
      rintro t H n ⟨f1, f2, f8, f9, f15, f16, f17, b_b6, l_b6, b_b8, l_b8, d_b6_b8⟩
      refine Stk.on ?_
      refine Stk.sq ?_
      refine Stk.rg ?_
      refine Stk.run 3 (fun t H n => t 1 = .ssl (encs c40 a1) a1.length false ∧ t 2 = .fn (.func g2) first2 caps2 ∧ t 15 = .ssl (encs c40 a0) a0.length false ∧ t 16 = .sc (.int .i64 (a0.length : Int)) ∧ t 17 = .sc (.int .i64 v2) ∧ t 26 = .fn (.func g2) first2 caps2 ∧ t 27 = .agg (c40 x5) ∧ t 28 = .agg (c40 x7)) (fun J hJ => ?_) ?_
      · simp [-splice, f1, f2, f8, f9, f15, f16, f17, b_b6, b_b8, ld_40_0_40]
        exact hJ _ _ _ ⟨by simp [f1], by simp [f2], by simp [f15], by simp [f16], by simp [f17], by simp [-splice, f1, f2, f8, f9, f15, f16, f17, b_b6, b_b8, ld_40_0_40], by simp [-splice, f1, f2, f8, f9, f15, f16, f17, b_b6, b_b8, ld_40_0_40], by simp [-splice, f1, f2, f8, f9, f15, f16, f17, b_b6, b_b8, ld_40_0_40]⟩
      clear f1 f2 f8 f9 f15 f16 f17 b_b6 l_b6 b_b8 l_b8 d_b6_b8
      rintro t H n ⟨f1, f2, f15, f16, f17, f26, f27, f28⟩
      obtain ⟨x9, hx9, h⟩ := bnd h
      refine Stk.cv (g := g2) (args := first2 ++ [.agg (c40 x5), .agg (c40 x7)] ++ caps2) (args' := first2 ++ [.agg (c40 x5), .agg (c40 x7)] ++ caps2) (v := .sc (.bool x9)) [] (hφ2 _ _ _ hx9) (by simp [f1, f2, f15, f16, f17, f26, f27, f28]) rfl f26 (by simp [f1, f2, f15, f16, f17, f26, f27, f28]) (viewL_mid (x := [.agg (c40 x5), .agg (c40 x7)]) (y := [.agg (c40 x5), .agg (c40 x7)]) fr2.1 fr2.2 (.cons (.free (fr40 _)) (.cons (.free (fr40 _)) (.nil)))) (.inl ⟨rfl, rfl⟩) (fun t' ht' => ?_)
      refine Stk.gen (fun t H n => t 1 = .ssl (encs c40 a1) a1.length false ∧ t 2 = .fn (.func g2) first2 caps2 ∧ t 15 = .ssl (encs c40 a0) a0.length false ∧ t 16 = .sc (.int .i64 (a0.length : Int)) ∧ t 17 = .sc (.int .i64 v2) ∧ t 29 = .sc (.bool x9)) ⟨by simp [ht', f1], by simp [ht', f2], by simp [ht', f15], by simp [ht', f16], by simp [ht', f17], by simp [ht']⟩ ?_
      clear f1 f2 f15 f16 f17 f26 f27 f28 ht' t'
      rintro t H n ⟨f1, f2, f15, f16, f17, f29⟩
      refine Stk.run 1 (fun t H n => t 1 = .ssl (encs c40 a1) a1.length false ∧ t 2 = .fn (.func g2) first2 caps2 ∧ t 15 = .ssl (encs c40 a0) a0.length false ∧ t 16 = .sc (.int .i64 (a0.length : Int)) ∧ t 17 = .sc (.int .i64 v2) ∧ t 30 = .sc (.bool (!x9))) (fun J hJ => ?_) ?_
      · simp [-splice, f1, f2, f15, f16, f17, f29]
        exact hJ _ _ _ ⟨by simp [f1], by simp [f2], by simp [f15], by simp [f16], by simp [f17], by simp [-splice, f1, f2, f15, f16, f17, f29]⟩
      clear f1 f2 f15 f16 f17 f29
      rintro t H n ⟨f1, f2, f15, f16, f17, f30⟩
      refine Stk.on ?_
      refine Stk.cond (!x9) (by exact f30) (fun hb10 => ?_) (fun hb10 => ?_)
      · have h := cT hb10 h
        refine Stk.sq ?_
        refine Stk.rg ?_
        refine Stk.run 1 (fun t H n => t 6 = .sc (.bool false)) (fun J hJ => ?_) ?_
        · simp [-splice, f1, f2, f15, f16, f17, f30]
          exact hJ _ _ _ (by simp [-splice, f1, f2, f15, f16, f17, f30])
        clear f1 f2 f15 f16 f17 f30
        rintro t H n f6
        refine Stk.on ?_
        refine Stk.rt ?_
        have hq := Option.some.inj h; subst hq
        exact (hr _ _ _ (.sc (.bool false)) ([]) (by simp [f6]) (.inr (.inr (.free (rfl))))).1
      · have h := cF hb10 h
        refine Stk.sk ?_
        refine Stk.bn ?_
        refine Stk.rg ?_
        refine Stk.run 2 (fun t H n => t 1 = .ssl (encs c40 a1) a1.length false ∧ t 2 = .fn (.func g2) first2 caps2 ∧ t 15 = .ssl (encs c40 a0) a0.length false ∧ t 16 = .sc (.int .i64 (a0.length : Int)) ∧ t 17 = .sc (.int .i64 (IntKind.i64.wrap (v2 + 1)))) (fun J hJ => ?_) ?_
        · simp [-splice, f1, f2, f15, f16, f17, f30]
          exact hJ _ _ _ ⟨by simp [f1], by simp [f2], by simp [f15], by simp [f16], by simp [-splice, f1, f2, f15, f16, f17, f30]⟩
        clear f1 f2 f15 f16 f17 f30
        rintro t H n ⟨f1, f2, f15, f16, f17⟩
        refine Stk.on ?_
        exact Stk.ln μ (Nat.lt_succ_self _) (hJ1 _ _ _ _ ⟨(IntKind.i64.wrap (v2 + 1)), h, f1, f2, f15, f16, f17⟩)
    · have h := cF hb4 h
      refine Stk.ex rfl ?_
      refine Stk.sq ?_
      refine Stk.rg ?_
      refine Stk.run 1 (fun t H n => t 6 = .sc (.bool true)) (fun J hJ => ?_) ?_
      · simp [-splice, f1, f2, f15, f16, f17, f18]
        exact hJ _ _ _ (by simp [-splice, f1, f2, f15, f16, f17, f18])
      clear f1 f2 f15 f16 f17 f18
      rintro t H n f6
      refine Stk.on ?_
      refine Stk.rt ?_
      have hq := Option.some.inj h; subst hq
      exact (hr _ _ _ (.sc (.bool true)) ([]) (by simp [f6]) (.inr (.inr (.free (rfl))))).1
theorem okB_ty_Same (F : Nat) (ρ20 : api_Type → api_Type → Option Bool) (hρ20 : ∀ a0 a1 r, ρ20 a0 a1 = some r → RunF Try.prog T.T 20 [.agg (c40 a0), .agg (c40 a1)] (.sc (.bool r))) (a0 : api_Type) (a1 : api_Type) (r : Bool) (h : ty_Same_B F ρ20 a0 a1 = some r) : RunF Try.prog T.T 20 [.agg (c40 a0), .agg (c40 a1)] (.sc (.bool r)) := by
  rw [ty_Same_B] at h
  refine RunF.z Try.func20 rfl rfl rfl rfl rfl (fun C hr => ?_)
  refine Stk.gen (fun t H n => t 0 = .agg (c40 a0) ∧ t 1 = .agg (c40 a1)) ⟨by simp, by simp⟩ ?_
  rintro t H n ⟨f0, f1⟩
  refine Stk.sq ?_
  refine Stk.rg ?_
  refine Stk.om (mop_box T.t40 (cs := c40 a0) (by show partOk (t 0) = true; rw [f0]; rfl) (by show cellsOf (t 0) = _; rw [f0]; rfl)) (by simp [f0, f1]) rfl (fun t' ht' => ?_)
  refine Stk.gen (fun t H n => ∃ b1, t 1 = .agg (c40 a1) ∧ t 2 = .own b1 0 ∧ H b1 = some (.cells (c40 a0) 40) ∧ b1 < n) ⟨n, by simp [ht', f1], by simp [ht'], upd_same _ _ _, Nat.lt_succ_self _⟩ ?_
  clear f0 f1 ht' t'
  rintro t H n ⟨b1, f1, f2, b_b1, l_b1⟩
  refine Stk.om (mop_box T.t40 (cs := c40 a1) (by show partOk (t 1) = true; rw [f1]; rfl) (by show cellsOf (t 1) = _; rw [f1]; rfl)) (by simp [f1, f2]) rfl (fun t' ht' => ?_)
  refine Stk.gen (fun t H n => ∃ b2, t 2 = .own b1 0 ∧ t 3 = .own b2 0 ∧ H b1 = some (.cells (c40 a0) 40) ∧ b1 < n ∧ H b2 = some (.cells (c40 a1) 40) ∧ b2 < n ∧ b1 ≠ b2) ⟨n, by simp [ht', f2], by simp [ht'], (upd_ne _ _ (Nat.ne_of_lt l_b1)).trans b_b1, Nat.lt_succ_of_lt l_b1, upd_same _ _ _, Nat.lt_succ_self _, Nat.ne_of_lt l_b1⟩ ?_
  clear f1 f2 b_b1 l_b1 ht' t'
  rintro t H n ⟨b2, f2, f3, b_b1, l_b1, b_b2, l_b2, d_b1_b2⟩
  refine Stk.run 1 (fun t H n => t 2 = .own b1 0 ∧ t 3 = .own b2 0 ∧ H b1 = some (.cells (c40 a0) 40) ∧ b1 < n ∧ H b2 = some (.cells (c40 a1) 40) ∧ b2 < n ∧ b1 ≠ b2) (fun J hJ => ?_) ?_
  · simp [-splice, f2, f3, b_b1, b_b2]
    exact hJ _ _ _ ⟨by simp [f2], by simp [f3], b_b1, l_b1, b_b2, l_b2, d_b1_b2⟩
  clear f2 f3 b_b1 l_b1 b_b2 l_b2 d_b1_b2
  rintro t H n ⟨f2, f3, b_b1, l_b1, b_b2, l_b2, d_b1_b2⟩
  refine Stk.on ?_
  refine Stk.sq ?_
  refine Stk.rg ?_
  refine Stk.run 6 (fun t H n => t 2 = .own b1 0 ∧ t 3 = .own b2 0 ∧ t 10 = .sc (.bool (a0.Kind == a1.Kind)) ∧ H b1 = some (.cells (c40 a0) 40) ∧ b1 < n ∧ H b2 = some (.cells (c40 a1) 40) ∧ b2 < n ∧ b1 ≠ b2) (fun J hJ => ?_) ?_
  · simp [-splice, f2, f3, b_b1, b_b2, ld_40_0_3]
    exact hJ _ _ _ ⟨by simp [f2], by simp [f3], by simp [-splice, f2, f3, b_b1, b_b2, ld_40_0_3], b_b1, l_b1, b_b2, l_b2, d_b1_b2⟩
  clear f2 f3 b_b1 l_b1 b_b2 l_b2 d_b1_b2
  rintro t H n ⟨f2, f3, f10, b_b1, l_b1, b_b2, l_b2, d_b1_b2⟩
  refine Stk.jo 6 (fun t H n => t 2 = .own b1 0 ∧ t 3 = .own b2 0 ∧ t 16 = .sc (.bool ((a0.Kind == a1.Kind) && (a0.Name.toList == a1.Name.toList))) ∧ H b1 = some (.cells (c40 a0) 40) ∧ b1 < n ∧ H b2 = some (.cells (c40 a1) 40) ∧ b2 < n ∧ b1 ≠ b2) (fun J1 hJ1 => ?_) ?_
  · rcases Bool.eq_false_or_eq_true (a0.Kind == a1.Kind) with hb1 | hb1
    · rw [hb1] at f10
      refine Stk.run 6 (fun t H n => t 2 = .own b1 0 ∧ t 3 = .own b2 0 ∧ t 16 = .sc (.bool (a0.Name.toList == a1.Name.toList)) ∧ H b1 = some (.cells (c40 a0) 40) ∧ b1 < n ∧ H b2 = some (.cells (c40 a1) 40) ∧ b2 < n ∧ b1 ≠ b2) (fun J hJ => ?_) ?_
      · simp [-splice, f2, f3, f10, b_b1, b_b2, ld_40_1_9]
        exact hJ _ _ _ ⟨by simp [f2], by simp [f3], by simp [-splice, f2, f3, f10, b_b1, b_b2, ld_40_1_9], b_b1, l_b1, b_b2, l_b2, d_b1_b2⟩
      clear f2 f3 f10 b_b1 l_b1 b_b2 l_b2 d_b1_b2
      rintro t H n ⟨f2, f3, f16, b_b1, l_b1, b_b2, l_b2, d_b1_b2⟩
      refine Stk.on ?_
      exact Stk.ln 0 (by decide) (hJ1 _ _ _ ⟨f2, f3, f16.trans (congrArg (fun q => AV.sc (.bool q)) (by rw [hb1]; rfl)), b_b1, l_b1, b_b2, l_b2, d_b1_b2⟩)
    · rw [hb1] at f10
      refine Stk.run 6 (fun t H n => t 2 = .own b1 0 ∧ t 3 = .own b2 0 ∧ t 16 = .sc (.bool false) ∧ H b1 = some (.cells (c40 a0) 40) ∧ b1 < n ∧ H b2 = some (.cells (c40 a1) 40) ∧ b2 < n ∧ b1 ≠ b2) (fun J hJ => ?_) ?_
      · simp [-splice, f2, f3, f10, b_b1, b_b2]
        exact hJ _ _ _ ⟨by simp [f2], by simp [f3], by simp [-splice, f2, f3, f10, b_b1, b_b2], b_b1, l_b1, b_b2, l_b2, d_b1_b2⟩
      clear f2 f3 f10 b_b1 l_b1 b_b2 l_b2 d_b1_b2
      rintro t H n ⟨f2, f3, f16, b_b1, l_b1, b_b2, l_b2, d_b1_b2⟩
      refine Stk.on ?_
      exact Stk.ln 0 (by decide) (hJ1 _ _ _ ⟨f2, f3, f16.trans (congrArg (fun q => AV.sc (.bool q)) (by rw [hb1]; rfl)), b_b1, l_b1, b_b2, l_b2, d_b1_b2⟩)
  clear f2 f3 f10 b_b1 l_b1 b_b2 l_b2 d_b1_b2
  rintro t H n ⟨f2, f3, f16, b_b1, l_b1, b_b2, l_b2, d_b1_b2⟩
  refine Stk.run 1 (fun t H n => t 2 = .own b1 0 ∧ t 3 = .own b2 0 ∧ t 17 = .sc (.bool ((a0.Kind == a1.Kind) && (a0.Name.toList == a1.Name.toList))) ∧ H b1 = some (.cells (c40 a0) 40) ∧ b1 < n ∧ H b2 = some (.cells (c40 a1) 40) ∧ b2 < n ∧ b1 ≠ b2) (fun J hJ => ?_) ?_
  · simp [-splice, f2, f3, f16, b_b1, b_b2]
    exact hJ _ _ _ ⟨by simp [f2], by simp [f3], by simp [-splice, f2, f3, f16, b_b1, b_b2], b_b1, l_b1, b_b2, l_b2, d_b1_b2⟩
  clear f2 f3 f16 b_b1 l_b1 b_b2 l_b2 d_b1_b2
  rintro t H n ⟨f2, f3, f17, b_b1, l_b1, b_b2, l_b2, d_b1_b2⟩
  obtain ⟨K2, hK2, h⟩ := jnd h
  refine Stk.jo 6 (fun t H n => ∃ v3 : Bool, K2 v3 = some r ∧ t 23 = .sc (.bool v3)) (fun J2 hJ2 => ?_) ?_
  · rcases Bool.eq_false_or_eq_true ((a0.Kind == a1.Kind) && (a0.Name.toList == a1.Name.toList)) with hb2 | hb2
    · rw [hb2] at f17
      replace h := cT hb2 h
      refine Stk.run 4 (fun t H n => t 17 = .sc (.bool true) ∧ t 19 = .ssl (encs c40 a0.Parts) a0.Parts.length false ∧ t 21 = .ssl (encs c40 a1.Parts) a1.Parts.length false) (fun J hJ => ?_) ?_
      · simp [-splice, f2, f3, f17, b_b1, b_b2, ld_40_2_33]
        exact hJ _ _ _ ⟨by simp [f17], by simp [-splice, f2, f3, f17, b_b1, b_b2, ld_40_2_33], by simp [-splice, f2, f3, f17, b_b1, b_b2, ld_40_2_33]⟩
      clear f2 f3 f17 b_b1 l_b1 b_b2 l_b2 d_b1_b2
      rintro t H n ⟨f17, f19, f21⟩
      obtain ⟨x4, hx4, h⟩ := bnd h
      refine Stk.cv (g := 35) (args := [.ssl (encs c40 a0.Parts) a0.Parts.length false, .ssl (encs c40 a1.Parts) a1.Parts.length false, .fn (.func 20) [] []]) (args' := [.ssl (encs c40 a0.Parts) a0.Parts.length false, .ssl (encs c40 a1.Parts) a1.Parts.length false, .fn (.func 20) [] []]) (v := .sc (.bool x4)) [] (ok_slices_EqualFunc_api_Type_api_Type_api_Type_api_Type F _ _ _ 20 [] [] ⟨by simp [freeL, free], by simp [freeL, free]⟩ (fun y0 y1 r h => hρ20 y0 y1 r h) _ hx4) (by simp [f17, f19, f21]) rfl rfl (by simp [f17, f19, f21]) (.cons (.free (freeL_encs fr40 _)) (.cons (.free (freeL_encs fr40 _)) (.cons (.fn .nil (.nil)) (.nil)))) (.inl ⟨rfl, rfl⟩) (fun t' ht' => ?_)
      refine Stk.gen (fun t H n => t 17 = .sc (.bool true) ∧ t 22 = .sc (.bool x4)) ⟨by simp [ht', f17], by simp [ht']⟩ ?_
      clear f17 f19 f21 ht' t'
      rintro t H n ⟨f17, f22⟩
      refine Stk.run 1 (fun t H n => t 23 = .sc (.bool x4)) (fun J hJ => ?_) ?_
      · simp [-splice, f17, f22]
        exact hJ _ _ _ (by simp [-splice, f17, f22])
      clear f17 f22
      rintro t H n f23
      refine Stk.on ?_
      exact Stk.ln 0 (by decide) (hJ2 _ _ _ ⟨x4, h, f23⟩)
    · rw [hb2] at f17
      replace h := cF hb2 h
      refine Stk.run 6 (fun t H n => t 23 = .sc (.bool false)) (fun J hJ => ?_) ?_
      · simp [-splice, f2, f3, f17, b_b1, b_b2]
        exact hJ _ _ _ (by simp [-splice, f2, f3, f17, b_b1, b_b2])
      clear f2 f3 f17 b_b1 l_b1 b_b2 l_b2 d_b1_b2
      rintro t H n f23
      refine Stk.on ?_
      exact Stk.ln 0 (by decide) (hJ2 _ _ _ ⟨false, h, f23⟩)
  clear h f2 f3 f17 b_b1 l_b1 b_b2 l_b2 d_b1_b2
  rintro t H n ⟨v3, h, f23⟩
  subst hK2
  refine Stk.run 1 (fun t H n => t 4 = .sc (.bool v3)) (fun J hJ => ?_) ?_
  · simp [-splice, f23]
    exact hJ _ _ _ (by simp [-splice, f23])
  clear f23
  rintro t H n f4
  refine Stk.on ?_
  refine Stk.rt ?_
  have hq := Option.some.inj h; subst hq
  exact (hr _ _ _ (.sc (.bool v3)) ([]) (by simp [f4]) (.inr (.inr (.free (rfl))))).1
theorem okG_ty_Same : ∀ F : Nat, (∀ (a0 : api_Type) (a1 : api_Type) (r : Bool), ty_Same F a0 a1 = some r → RunF Try.prog T.T 20 [.agg (c40 a0), .agg (c40 a1)] (.sc (.bool r)))
  | 0 => (fun a0 a1 r h => by rw [ty_Same] at h; cases h)
  | F + 1 => (fun a0 a1 r h => okB_ty_Same F (ty_Same F) (okG_ty_Same F) a0 a1 r (by rw [ty_Same] at h; exact h))
theorem ok_ty_Same (F : Nat) (a0 : api_Type) (a1 : api_Type) (r : Bool) (h : ty_Same F a0 a1 = some r) : RunF Try.prog T.T 20 [.agg (c40 a0), .agg (c40 a1)] (.sc (.bool r)) := (okG_ty_Same F) a0 a1 r h

end Go.Proofs.Ytappiofmkoelnaa.M
