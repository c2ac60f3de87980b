/-
  The functions come to them.
-/
import Derived.Test.YtappiofmkoelnaaTyM
import Derived.Test.YtappiofmkoelnaaTyW0
namespace Go.Proofs.Ytappiofmkoelnaa.M
open Go.Proofs.YtappiofmkoelnaaW.Ah Go.Proofs.Ytappiofmkoelnaa
set_option linter.unusedVariables false
set_option linter.unusedSimpArgs false
set_option maxRecDepth 8000
attribute [local simp] T.t3 T.t4 T.t9 T.t22 T.t30 T.t32 T.t35 List.range List.range.loop
attribute [-simp] appendAV fillAV
theorem ok_L07_TyNames (F : Nat) (a0 : (List api_Data)) (a1 : ByteArray) (r : Bool) (h : L07_TyNames F a0 a1 = some r) : RunF Try.prog T.T 3 [.ssl (encs c32 a0) a0.length false, .sc (.string a1)] (.sc (.bool r)) := by
  rw [L07_TyNames] at h
  refine RunF.z Try.func3 rfl rfl rfl rfl rfl (fun C hr => ?_)
  refine Stk.gen (fun t H n => t 0 = .ssl (encs c32 a0) a0.length false ∧ t 1 = .sc (.string a1)) ⟨by simp, by simp⟩ ?_
  rintro t H n ⟨f0, f1⟩
  refine Stk.sq ?_
  refine Stk.rg ?_
  refine Stk.run 1 (fun t H n => t 0 = .ssl (encs c32 a0) a0.length false ∧ t 1 = .sc (.string a1)) (fun J hJ => ?_) ?_
  · simp [-splice, f0, f1]
    exact hJ _ _ _ ⟨by simp [f0], by simp [f1]⟩
  clear f0 f1
  rintro t H n ⟨f0, f1⟩
  refine Stk.on ?_
  refine Stk.sq ?_
  refine Stk.sq ?_
  refine Stk.rg ?_
  refine Stk.run 1 (fun t H n => t 0 = .ssl (encs c32 a0) a0.length false ∧ t 1 = .sc (.string a1) ∧ t 12 = .ssl (encs c32 a0) a0.length false) (fun J hJ => ?_) ?_
  · simp [-splice, f0, f1]
    exact hJ _ _ _ ⟨by simp [f0], by simp [f1], by simp [-splice, f0, f1]⟩
  clear f0 f1
  rintro t H n ⟨f0, f1, f12⟩
  obtain ⟨x1, hx1, h⟩ := bnd h
  refine Stk.cv (g := 6) (args := [.ssl (encs c32 a0) a0.length false]) (args' := [.ssl (encs c32 a0) a0.length false]) (v := .sc (.bool x1)) [] (ok_L07_light F _ _ hx1) (by simp [f0, f1, f12]) rfl rfl (by simp [f0, f1, f12]) (.cons (.free (freeL_encs fr32 _)) (.nil)) (.inl ⟨rfl, rfl⟩) (fun t' ht' => ?_)
  refine Stk.gen (fun t H n => t 0 = .ssl (encs c32 a0) a0.length false ∧ t 1 = .sc (.string a1) ∧ t 13 = .sc (.bool x1)) ⟨by simp [ht', f0], by simp [ht', f1], by simp [ht']⟩ ?_
  clear f0 f1 f12 ht' t'
  rintro t H n ⟨f0, f1, f13⟩
  refine Stk.run 2 (fun t H n => t 0 = .ssl (encs c32 a0) a0.length false ∧ t 1 = .sc (.string a1) ∧ t 15 = .sc (.bool (!x1))) (fun J hJ => ?_) ?_
  · simp [-splice, f0, f1, f13]
    exact hJ _ _ _ ⟨by simp [f0], by simp [f1], by simp [-splice, f0, f1, f13]⟩
  clear f0 f1 f13
  rintro t H n ⟨f0, f1, f15⟩
  refine Stk.jo 4 (fun t H n => t 0 = .ssl (encs c32 a0) a0.length false ∧ t 1 = .sc (.string a1) ∧ t 19 = .sc (.bool ((!x1) || (decide (300 < (a1.size : Int)))))) (fun J1 hJ1 => ?_) ?_
  · rcases Bool.eq_false_or_eq_true (!x1) with hb1 | hb1
    · rw [hb1] at f15
      refine Stk.run 4 (fun t H n => t 0 = .ssl (encs c32 a0) a0.length false ∧ t 1 = .sc (.string a1) ∧ t 19 = .sc (.bool true)) (fun J hJ => ?_) ?_
      · simp [-splice, f0, f1, f15]
        exact hJ _ _ _ ⟨by simp [f0], by simp [f1], by simp [-splice, f0, f1, f15]⟩
      clear f0 f1 f15
      rintro t H n ⟨f0, f1, f19⟩
      refine Stk.on ?_
      exact Stk.ln 0 (by decide) (hJ1 _ _ _ ⟨f0, f1, f19.trans (congrArg (fun q => AV.sc (.bool q)) (by rw [hb1]; rfl))⟩)
    · rw [hb1] at f15
      refine Stk.run 4 (fun t H n => t 0 = .ssl (encs c32 a0) a0.length false ∧ t 1 = .sc (.string a1) ∧ t 19 = .sc (.bool (decide (300 < (a1.size : Int))))) (fun J hJ => ?_) ?_
      · simp [-splice, f0, f1, f15]
        exact hJ _ _ _ ⟨by simp [f0], by simp [f1], by simp [-splice, f0, f1, f15]⟩
      clear f0 f1 f15
      rintro t H n ⟨f0, f1, f19⟩
      refine Stk.on ?_
      exact Stk.ln 0 (by decide) (hJ1 _ _ _ ⟨f0, f1, f19.trans (congrArg (fun q => AV.sc (.bool q)) (by rw [hb1]; rfl))⟩)
  clear f0 f1 f15
  rintro t H n ⟨f0, f1, f19⟩
  refine Stk.on ?_
  refine Stk.cond ((!x1) || (decide (300 < (a1.size : Int)))) (by exact f19) (fun hb2 => ?_) (fun hb2 => ?_)
  · have h := cT hb2 h
    refine Stk.sq ?_
    refine Stk.rg ?_
    obtain ⟨x3, hx3, h⟩ := bnd h
    refine Stk.cv (g := 7) (args := []) (args' := []) (v := .sc (.bool x3)) [] (ok_L07_awake F  _ hx3) (by simp [f0, f1, f19]) rfl rfl (by simp [f0, f1, f19]) (.nil) (.inl ⟨rfl, rfl⟩) (fun t' ht' => ?_)
    refine Stk.gen (fun t H n => t 20 = .sc (.bool x3)) (by simp [ht']) ?_
    clear f0 f1 f19 ht' t'
    rintro t H n f20
    refine Stk.run 1 (fun t H n => t 4 = .sc (.bool x3)) (fun J hJ => ?_) ?_
    · simp [-splice, f20]
      exact hJ _ _ _ (by simp [-splice, f20])
    clear f20
    rintro t H n f4
    refine Stk.on ?_
    refine Stk.rt ?_
    have hq := Option.some.inj h; subst hq
    exact (hr _ _ _ (.sc (.bool x3)) ([]) (by simp [f4]) (.inr (.inr (.free (rfl))))).1
  · have h := cF hb2 h
    refine Stk.sk ?_
    refine Stk.sq ?_
    refine Stk.rg ?_
    refine Stk.run 2 (fun t H n => t 0 = .ssl (encs c32 a0) a0.length false ∧ t 1 = .sc (.string a1) ∧ t 21 = .ssl (encs c32 a0) a0.length false ∧ t 22 = .sc (.string a1)) (fun J hJ => ?_) ?_
    · simp [-splice, f0, f1, f19]
      exact hJ _ _ _ ⟨by simp [f0], by simp [f1], by simp [-splice, f0, f1, f19], by simp [-splice, f0, f1, f19]⟩
    clear f0 f1 f19
    rintro t H n ⟨f0, f1, f21, f22⟩
    obtain ⟨x4, hx4, h⟩ := bnd h
    refine Stk.cv (g := 8) (args := [.ssl (encs c32 a0) a0.length false, .sc (.string a1)]) (args' := [.ssl (encs c32 a0) a0.length false, .sc (.string a1)]) (v := .sc (.int .i64 x4)) [] (ok_ty_Find F _ _ _ hx4) (by simp [f0, f1, f21, f22]) rfl rfl (by simp [f0, f1, f21, f22]) (.cons (.free (freeL_encs fr32 _)) (.cons (.free (rfl)) (.nil))) (.inl ⟨rfl, rfl⟩) (fun t' ht' => ?_)
    refine Stk.gen (fun t H n => t 0 = .ssl (encs c32 a0) a0.length false ∧ t 1 = .sc (.string a1) ∧ t 23 = .sc (.int .i64 x4)) ⟨by simp [ht', f0], by simp [ht', f1], by simp [ht']⟩ ?_
    clear f0 f1 f21 f22 ht' t'
    rintro t H n ⟨f0, f1, f23⟩
    refine Stk.run 1 (fun t H n => t 0 = .ssl (encs c32 a0) a0.length false ∧ t 1 = .sc (.string a1) ∧ t 5 = .sc (.int .i64 x4)) (fun J hJ => ?_) ?_
    · simp [-splice, f0, f1, f23]
      exact hJ _ _ _ ⟨by simp [f0], by simp [f1], by simp [-splice, f0, f1, f23]⟩
    clear f0 f1 f23
    rintro t H n ⟨f0, f1, f5⟩
    refine Stk.on ?_
    refine Stk.sq ?_
    refine Stk.rg ?_
    refine Stk.run 2 (fun t H n => t 0 = .ssl (encs c32 a0) a0.length false ∧ t 1 = .sc (.string a1) ∧ t 5 = .sc (.int .i64 x4) ∧ t 25 = .ssl (encs c32 a0) a0.length false ∧ t 26 = .sc (.string a1)) (fun J hJ => ?_) ?_
    · simp [-splice, f0, f1, f5]
      exact hJ _ _ _ ⟨by simp [f0], by simp [f1], by simp [f5], by simp [-splice, f0, f1, f5], by simp [-splice, f0, f1, f5]⟩
    clear f0 f1 f5
    rintro t H n ⟨f0, f1, f5, f25, f26⟩
    obtain ⟨x5, hx5, h⟩ := bnd h
    refine Stk.cv (g := 9) (args := [.ssl (encs c32 a0) a0.length false, .sc (.string a1)]) (args' := [.ssl (encs c32 a0) a0.length false, .sc (.string a1)]) (v := .tup [.sc (.int .i64 x5.1), .sc (.int .i64 x5.2.1), .sc (.bool x5.2.2)]) [] (ok_ty_Con F _ _ _ hx5) (by simp [f0, f1, f5, f25, f26]) rfl rfl (by simp [f0, f1, f5, f25, f26]) (.cons (.free (freeL_encs fr32 _)) (.cons (.free (rfl)) (.nil))) (.inl ⟨rfl, by simp [free, freeL]⟩) (fun t' ht' => ?_)
    refine Stk.gen (fun t H n => t 0 = .ssl (encs c32 a0) a0.length false ∧ t 1 = .sc (.string a1) ∧ t 5 = .sc (.int .i64 x4) ∧ t 27 = .tup [.sc (.int .i64 x5.1), .sc (.int .i64 x5.2.1), .sc (.bool x5.2.2)]) ⟨by simp [ht', f0], by simp [ht', f1], by simp [ht', f5], by simp [ht']⟩ ?_
    clear f0 f1 f5 f25 f26 ht' t'
    rintro t H n ⟨f0, f1, f5, f27⟩
    refine Stk.run 7 (fun t H n => t 0 = .ssl (encs c32 a0) a0.length false ∧ t 1 = .sc (.string a1) ∧ t 5 = .sc (.int .i64 x4) ∧ t 6 = .sc (.int .i64 x5.1) ∧ t 7 = .sc (.int .i64 x5.2.1) ∧ t 8 = .sc (.bool x5.2.2)) (fun J hJ => ?_) ?_
    · simp [-splice, f0, f1, f5, f27]
      exact hJ _ _ _ ⟨by simp [f0], by simp [f1], by simp [f5], by simp [-splice, f0, f1, f5, f27], by simp [-splice, f0, f1, f5, f27], by simp [-splice, f0, f1, f5, f27]⟩
    clear f0 f1 f5 f27
    rintro t H n ⟨f0, f1, f5, f6, f7, f8⟩
    refine Stk.on ?_
    refine Stk.sq ?_
    refine Stk.sq ?_
    refine Stk.rg ?_
    refine Stk.run 5 (fun t H n => t 0 = .ssl (encs c32 a0) a0.length false ∧ t 1 = .sc (.string a1) ∧ t 5 = .sc (.int .i64 x4) ∧ t 6 = .sc (.int .i64 x5.1) ∧ t 7 = .sc (.int .i64 x5.2.1) ∧ t 8 = .sc (.bool x5.2.2) ∧ t 35 = .sc (.bool (decide ((a0.length : Int) ≤ x4)))) (fun J hJ => ?_) ?_
    · simp [-splice, f0, f1, f5, f6, f7, f8]
      exact hJ _ _ _ ⟨by simp [f0], by simp [f1], by simp [f5], by simp [f6], by simp [f7], by simp [f8], by simp [-splice, f0, f1, f5, f6, f7, f8]⟩
    clear f0 f1 f5 f6 f7 f8
    rintro t H n ⟨f0, f1, f5, f6, f7, f8, f35⟩
    obtain ⟨K2, hK2, h⟩ := jnd h
    refine Stk.jo 12 (fun t H n => ∃ v6 : Bool, K2 v6 = some r ∧ t 0 = .ssl (encs c32 a0) a0.length false ∧ t 1 = .sc (.string a1) ∧ t 5 = .sc (.int .i64 x4) ∧ t 6 = .sc (.int .i64 x5.1) ∧ t 7 = .sc (.int .i64 x5.2.1) ∧ t 8 = .sc (.bool x5.2.2) ∧ t 47 = .sc (.bool v6)) (fun J2 hJ2 => ?_) ?_
    · rcases Bool.eq_false_or_eq_true (decide ((a0.length : Int) ≤ x4)) with hb2 | hb2
      · rw [hb2] at f35
        replace h := cT hb2 h
        refine Stk.run 12 (fun t H n => t 0 = .ssl (encs c32 a0) a0.length false ∧ t 1 = .sc (.string a1) ∧ t 5 = .sc (.int .i64 x4) ∧ t 6 = .sc (.int .i64 x5.1) ∧ t 7 = .sc (.int .i64 x5.2.1) ∧ t 8 = .sc (.bool x5.2.2) ∧ t 47 = .sc (.bool true)) (fun J hJ => ?_) ?_
        · simp [-splice, f0, f1, f5, f6, f7, f8, f35]
          exact hJ _ _ _ ⟨by simp [f0], by simp [f1], by simp [f5], by simp [f6], by simp [f7], by simp [f8], by simp [-splice, f0, f1, f5, f6, f7, f8, f35]⟩
        clear f0 f1 f5 f6 f7 f8 f35
        rintro t H n ⟨f0, f1, f5, f6, f7, f8, f47⟩
        refine Stk.on ?_
        exact Stk.ln 0 (by decide) (hJ2 _ _ _ ⟨true, h, f0, f1, f5, f6, f7, f8, f47⟩)
      · rw [hb2] at f35
        replace h := cF hb2 h
        refine Stk.run 3 (fun t H n => t 0 = .ssl (encs c32 a0) a0.length false ∧ t 1 = .sc (.string a1) ∧ t 5 = .sc (.int .i64 x4) ∧ t 6 = .sc (.int .i64 x5.1) ∧ t 7 = .sc (.int .i64 x5.2.1) ∧ t 8 = .sc (.bool x5.2.2) ∧ t 35 = .sc (.bool false) ∧ t 38 = .sc (.bool (decide (0 ≤ x4)))) (fun J hJ => ?_) ?_
        · simp [-splice, f0, f1, f5, f6, f7, f8, f35]
          exact hJ _ _ _ ⟨by simp [f0], by simp [f1], by simp [f5], by simp [f6], by simp [f7], by simp [f8], by simp [f35], by simp [-splice, f0, f1, f5, f6, f7, f8, f35]⟩
        clear f0 f1 f5 f6 f7 f8 f35
        rintro t H n ⟨f0, f1, f5, f6, f7, f8, f35, f38⟩
        obtain ⟨K3, hK3, h⟩ := jnd h
        refine Stk.jo 8 (fun t H n => ∃ v7 : Bool, K3 v7 = some r ∧ t 0 = .ssl (encs c32 a0) a0.length false ∧ t 1 = .sc (.string a1) ∧ t 5 = .sc (.int .i64 x4) ∧ t 6 = .sc (.int .i64 x5.1) ∧ t 7 = .sc (.int .i64 x5.2.1) ∧ t 8 = .sc (.bool x5.2.2) ∧ t 35 = .sc (.bool false) ∧ t 46 = .sc (.bool v7)) (fun J3 hJ3 => ?_) ?_
        · rcases Bool.eq_false_or_eq_true (decide (0 ≤ x4)) with hb3 | hb3
          · rw [hb3] at f38
            replace h := cT hb3 h
            obtain ⟨x8, hx8, h⟩ := bnd h
            obtain ⟨i0x8, i1x8, i2x8, _⟩ := idx_ok hx8
            have ex8_2_9 : partOf T.T 9 (encs c32 a0) (x4.toNat * 4 + 2) = some (.sc (.string x8.Name)) := by
                have e0 := part_elem0 (e := c32) (z := 4) (T := T.T) (ty := 9) T.t9 (by decide) (by decide) hx8 2 (by decide)
                (try simp only [Nat.mul_one, Nat.add_zero] at e0)
                exact e0.trans (ld_32_2_9 _)
            refine Stk.run 8 (fun t H n => t 0 = .ssl (encs c32 a0) a0.length false ∧ t 1 = .sc (.string a1) ∧ t 5 = .sc (.int .i64 x4) ∧ t 6 = .sc (.int .i64 x5.1) ∧ t 7 = .sc (.int .i64 x5.2.1) ∧ t 8 = .sc (.bool x5.2.2) ∧ t 35 = .sc (.bool false) ∧ t 46 = .sc (.bool (!(x8.Name.toList == a1.toList)))) (fun J hJ => ?_) ?_
            · simp [-splice, f0, f1, f5, f6, f7, f8, f35, f38, i0x8, i1x8, pd9, ex8_2_9]
              exact hJ _ _ _ ⟨by simp [f0], by simp [f1], by simp [f5], by simp [f6], by simp [f7], by simp [f8], by simp [f35], by simp [-splice, f0, f1, f5, f6, f7, f8, f35, f38, i0x8, i1x8, pd9, ex8_2_9]⟩
            clear f0 f1 f5 f6 f7 f8 f35 f38
            rintro t H n ⟨f0, f1, f5, f6, f7, f8, f35, f46⟩
            refine Stk.on ?_
            exact Stk.ln 0 (by decide) (hJ3 _ _ _ ⟨(!(x8.Name.toList == a1.toList)), h, f0, f1, f5, f6, f7, f8, f35, f46⟩)
          · rw [hb3] at f38
            replace h := cF hb3 h
            refine Stk.run 8 (fun t H n => t 0 = .ssl (encs c32 a0) a0.length false ∧ t 1 = .sc (.string a1) ∧ t 5 = .sc (.int .i64 x4) ∧ t 6 = .sc (.int .i64 x5.1) ∧ t 7 = .sc (.int .i64 x5.2.1) ∧ t 8 = .sc (.bool x5.2.2) ∧ t 35 = .sc (.bool false) ∧ t 46 = .sc (.bool false)) (fun J hJ => ?_) ?_
            · simp [-splice, f0, f1, f5, f6, f7, f8, f35, f38]
              exact hJ _ _ _ ⟨by simp [f0], by simp [f1], by simp [f5], by simp [f6], by simp [f7], by simp [f8], by simp [f35], by simp [-splice, f0, f1, f5, f6, f7, f8, f35, f38]⟩
            clear f0 f1 f5 f6 f7 f8 f35 f38
            rintro t H n ⟨f0, f1, f5, f6, f7, f8, f35, f46⟩
            refine Stk.on ?_
            exact Stk.ln 0 (by decide) (hJ3 _ _ _ ⟨false, h, f0, f1, f5, f6, f7, f8, f35, f46⟩)
        clear h f0 f1 f5 f6 f7 f8 f35 f38
        rintro t H n ⟨v7, h, f0, f1, f5, f6, f7, f8, f35, f46⟩
        subst hK3
        refine Stk.run 1 (fun t H n => t 0 = .ssl (encs c32 a0) a0.length false ∧ t 1 = .sc (.string a1) ∧ t 5 = .sc (.int .i64 x4) ∧ t 6 = .sc (.int .i64 x5.1) ∧ t 7 = .sc (.int .i64 x5.2.1) ∧ t 8 = .sc (.bool x5.2.2) ∧ t 47 = .sc (.bool v7)) (fun J hJ => ?_) ?_
        · simp [-splice, f0, f1, f5, f6, f7, f8, f35, f46]
          exact hJ _ _ _ ⟨by simp [f0], by simp [f1], by simp [f5], by simp [f6], by simp [f7], by simp [f8], by simp [-splice, f0, f1, f5, f6, f7, f8, f35, f46]⟩
        clear f0 f1 f5 f6 f7 f8 f35 f46
        rintro t H n ⟨f0, f1, f5, f6, f7, f8, f47⟩
        refine Stk.on ?_
        exact Stk.ln 0 (by decide) (hJ2 _ _ _ ⟨v7, h, f0, f1, f5, f6, f7, f8, f47⟩)
    clear h f0 f1 f5 f6 f7 f8 f35
    rintro t H n ⟨v6, h, f0, f1, f5, f6, f7, f8, f47⟩
    subst hK2
    refine Stk.run 1 (fun t H n => t 0 = .ssl (encs c32 a0) a0.length false ∧ t 1 = .sc (.string a1) ∧ t 5 = .sc (.int .i64 x4) ∧ t 6 = .sc (.int .i64 x5.1) ∧ t 7 = .sc (.int .i64 x5.2.1) ∧ t 8 = .sc (.bool x5.2.2) ∧ t 48 = .sc (.bool v6)) (fun J hJ => ?_) ?_
    · simp [-splice, f0, f1, f5, f6, f7, f8, f47]
      exact hJ _ _ _ ⟨by simp [f0], by simp [f1], by simp [f5], by simp [f6], by simp [f7], by simp [f8], by simp [-splice, f0, f1, f5, f6, f7, f8, f47]⟩
    clear f0 f1 f5 f6 f7 f8 f47
    rintro t H n ⟨f0, f1, f5, f6, f7, f8, f48⟩
    obtain ⟨K4, hK4, h⟩ := jnd h
    refine Stk.jo 39 (fun t H n => ∃ v9 : Bool, K4 v9 = some r ∧ t 0 = .ssl (encs c32 a0) a0.length false ∧ t 1 = .sc (.string a1) ∧ t 5 = .sc (.int .i64 x4) ∧ t 6 = .sc (.int .i64 x5.1) ∧ t 7 = .sc (.int .i64 x5.2.1) ∧ t 8 = .sc (.bool x5.2.2) ∧ t 87 = .sc (.bool v9)) (fun J4 hJ4 => ?_) ?_
    · rcases Bool.eq_false_or_eq_true v6 with hb4 | hb4
      · rw [hb4] at f48
        replace h := cT hb4 h
        refine Stk.run 39 (fun t H n => t 0 = .ssl (encs c32 a0) a0.length false ∧ t 1 = .sc (.string a1) ∧ t 5 = .sc (.int .i64 x4) ∧ t 6 = .sc (.int .i64 x5.1) ∧ t 7 = .sc (.int .i64 x5.2.1) ∧ t 8 = .sc (.bool x5.2.2) ∧ t 87 = .sc (.bool true)) (fun J hJ => ?_) ?_
        · simp [-splice, f0, f1, f5, f6, f7, f8, f48]
          exact hJ _ _ _ ⟨by simp [f0], by simp [f1], by simp [f5], by simp [f6], by simp [f7], by simp [f8], by simp [-splice, f0, f1, f5, f6, f7, f8, f48]⟩
        clear f0 f1 f5 f6 f7 f8 f48
        rintro t H n ⟨f0, f1, f5, f6, f7, f8, f87⟩
        refine Stk.on ?_
        exact Stk.ln 0 (by decide) (hJ4 _ _ _ ⟨true, h, f0, f1, f5, f6, f7, f8, f87⟩)
      · rw [hb4] at f48
        replace h := cF hb4 h
        refine Stk.run 2 (fun t H n => t 0 = .ssl (encs c32 a0) a0.length false ∧ t 1 = .sc (.string a1) ∧ t 5 = .sc (.int .i64 x4) ∧ t 6 = .sc (.int .i64 x5.1) ∧ t 7 = .sc (.int .i64 x5.2.1) ∧ t 8 = .sc (.bool x5.2.2) ∧ t 48 = .sc (.bool false) ∧ t 50 = .sc (.bool x5.2.2)) (fun J hJ => ?_) ?_
        · simp [-splice, f0, f1, f5, f6, f7, f8, f48]
          exact hJ _ _ _ ⟨by simp [f0], by simp [f1], by simp [f5], by simp [f6], by simp [f7], by simp [f8], by simp [f48], by simp [-splice, f0, f1, f5, f6, f7, f8, f48]⟩
        clear f0 f1 f5 f6 f7 f8 f48
        rintro t H n ⟨f0, f1, f5, f6, f7, f8, f48, f50⟩
        obtain ⟨K5, hK5, h⟩ := jnd h
        refine Stk.jo 36 (fun t H n => ∃ v10 : Bool, K5 v10 = some r ∧ t 0 = .ssl (encs c32 a0) a0.length false ∧ t 1 = .sc (.string a1) ∧ t 5 = .sc (.int .i64 x4) ∧ t 6 = .sc (.int .i64 x5.1) ∧ t 7 = .sc (.int .i64 x5.2.1) ∧ t 8 = .sc (.bool x5.2.2) ∧ t 48 = .sc (.bool false) ∧ t 86 = .sc (.bool v10)) (fun J5 hJ5 => ?_) ?_
        · rcases Bool.eq_false_or_eq_true x5.2.2 with hb5 | hb5
          · rw [hb5] at f50
            replace h := cT hb5 h
            refine Stk.run 3 (fun t H n => t 0 = .ssl (encs c32 a0) a0.length false ∧ t 1 = .sc (.string a1) ∧ t 5 = .sc (.int .i64 x4) ∧ t 6 = .sc (.int .i64 x5.1) ∧ t 7 = .sc (.int .i64 x5.2.1) ∧ t 8 = .sc (.bool x5.2.2) ∧ t 48 = .sc (.bool false) ∧ t 50 = .sc (.bool true) ∧ t 53 = .sc (.bool (decide (x5.1 < 0)))) (fun J hJ => ?_) ?_
            · simp [-splice, f0, f1, f5, f6, f7, f8, f48, f50]
              exact hJ _ _ _ ⟨by simp [f0], by simp [f1], by simp [f5], by simp [f6], by simp [f7], by simp [f8], by simp [f48], by simp [f50], by simp [-splice, f0, f1, f5, f6, f7, f8, f48, f50]⟩
            clear f0 f1 f5 f6 f7 f8 f48 f50
            rintro t H n ⟨f0, f1, f5, f6, f7, f8, f48, f50, f53⟩
            refine Stk.jo 5 (fun t H n => t 0 = .ssl (encs c32 a0) a0.length false ∧ t 1 = .sc (.string a1) ∧ t 5 = .sc (.int .i64 x4) ∧ t 6 = .sc (.int .i64 x5.1) ∧ t 7 = .sc (.int .i64 x5.2.1) ∧ t 8 = .sc (.bool x5.2.2) ∧ t 48 = .sc (.bool false) ∧ t 50 = .sc (.bool true) ∧ t 58 = .sc (.bool ((decide (x5.1 < 0)) || (decide ((a0.length : Int) ≤ x5.1))))) (fun J6 hJ6 => ?_) ?_
            · rcases Bool.eq_false_or_eq_true (decide (x5.1 < 0)) with hb6 | hb6
              · rw [hb6] at f53
                refine Stk.run 5 (fun t H n => t 0 = .ssl (encs c32 a0) a0.length false ∧ t 1 = .sc (.string a1) ∧ t 5 = .sc (.int .i64 x4) ∧ t 6 = .sc (.int .i64 x5.1) ∧ t 7 = .sc (.int .i64 x5.2.1) ∧ t 8 = .sc (.bool x5.2.2) ∧ t 48 = .sc (.bool false) ∧ t 50 = .sc (.bool true) ∧ t 58 = .sc (.bool true)) (fun J hJ => ?_) ?_
                · simp [-splice, f0, f1, f5, f6, f7, f8, f48, f50, f53]
                  exact hJ _ _ _ ⟨by simp [f0], by simp [f1], by simp [f5], by simp [f6], by simp [f7], by simp [f8], by simp [f48], by simp [f50], by simp [-splice, f0, f1, f5, f6, f7, f8, f48, f50, f53]⟩
                clear f0 f1 f5 f6 f7 f8 f48 f50 f53
                rintro t H n ⟨f0, f1, f5, f6, f7, f8, f48, f50, f58⟩
                refine Stk.on ?_
                exact Stk.ln 0 (by decide) (hJ6 _ _ _ ⟨f0, f1, f5, f6, f7, f8, f48, f50, f58.trans (congrArg (fun q => AV.sc (.bool q)) (by rw [hb6]; rfl))⟩)
              · rw [hb6] at f53
                refine Stk.run 5 (fun t H n => t 0 = .ssl (encs c32 a0) a0.length false ∧ t 1 = .sc (.string a1) ∧ t 5 = .sc (.int .i64 x4) ∧ t 6 = .sc (.int .i64 x5.1) ∧ t 7 = .sc (.int .i64 x5.2.1) ∧ t 8 = .sc (.bool x5.2.2) ∧ t 48 = .sc (.bool false) ∧ t 50 = .sc (.bool true) ∧ t 58 = .sc (.bool (decide ((a0.length : Int) ≤ x5.1)))) (fun J hJ => ?_) ?_
                · simp [-splice, f0, f1, f5, f6, f7, f8, f48, f50, f53]
                  exact hJ _ _ _ ⟨by simp [f0], by simp [f1], by simp [f5], by simp [f6], by simp [f7], by simp [f8], by simp [f48], by simp [f50], by simp [-splice, f0, f1, f5, f6, f7, f8, f48, f50, f53]⟩
                clear f0 f1 f5 f6 f7 f8 f48 f50 f53
                rintro t H n ⟨f0, f1, f5, f6, f7, f8, f48, f50, f58⟩
                refine Stk.on ?_
                exact Stk.ln 0 (by decide) (hJ6 _ _ _ ⟨f0, f1, f5, f6, f7, f8, f48, f50, f58.trans (congrArg (fun q => AV.sc (.bool q)) (by rw [hb6]; rfl))⟩)
            clear f0 f1 f5 f6 f7 f8 f48 f50 f53
            rintro t H n ⟨f0, f1, f5, f6, f7, f8, f48, f50, f58⟩
            refine Stk.run 1 (fun t H n => t 0 = .ssl (encs c32 a0) a0.length false ∧ t 1 = .sc (.string a1) ∧ t 5 = .sc (.int .i64 x4) ∧ t 6 = .sc (.int .i64 x5.1) ∧ t 7 = .sc (.int .i64 x5.2.1) ∧ t 8 = .sc (.bool x5.2.2) ∧ t 48 = .sc (.bool false) ∧ t 50 = .sc (.bool true) ∧ t 59 = .sc (.bool ((decide (x5.1 < 0)) || (decide ((a0.length : Int) ≤ x5.1))))) (fun J hJ => ?_) ?_
            · simp [-splice, f0, f1, f5, f6, f7, f8, f48, f50, f58]
              exact hJ _ _ _ ⟨by simp [f0], by simp [f1], by simp [f5], by simp [f6], by simp [f7], by simp [f8], by simp [f48], by simp [f50], by simp [-splice, f0, f1, f5, f6, f7, f8, f48, f50, f58]⟩
            clear f0 f1 f5 f6 f7 f8 f48 f50 f58
            rintro t H n ⟨f0, f1, f5, f6, f7, f8, f48, f50, f59⟩
            refine Stk.jo 3 (fun t H n => t 0 = .ssl (encs c32 a0) a0.length false ∧ t 1 = .sc (.string a1) ∧ t 5 = .sc (.int .i64 x4) ∧ t 6 = .sc (.int .i64 x5.1) ∧ t 7 = .sc (.int .i64 x5.2.1) ∧ t 8 = .sc (.bool x5.2.2) ∧ t 48 = .sc (.bool false) ∧ t 50 = .sc (.bool true) ∧ t 62 = .sc (.bool (((decide (x5.1 < 0)) || (decide ((a0.length : Int) ≤ x5.1))) || (decide (x5.2.1 < 0))))) (fun J7 hJ7 => ?_) ?_
            · rcases Bool.eq_false_or_eq_true ((decide (x5.1 < 0)) || (decide ((a0.length : Int) ≤ x5.1))) with hb7 | hb7
              · rw [hb7] at f59
                refine Stk.run 3 (fun t H n => t 0 = .ssl (encs c32 a0) a0.length false ∧ t 1 = .sc (.string a1) ∧ t 5 = .sc (.int .i64 x4) ∧ t 6 = .sc (.int .i64 x5.1) ∧ t 7 = .sc (.int .i64 x5.2.1) ∧ t 8 = .sc (.bool x5.2.2) ∧ t 48 = .sc (.bool false) ∧ t 50 = .sc (.bool true) ∧ t 62 = .sc (.bool true)) (fun J hJ => ?_) ?_
                · simp [-splice, f0, f1, f5, f6, f7, f8, f48, f50, f59]
                  exact hJ _ _ _ ⟨by simp [f0], by simp [f1], by simp [f5], by simp [f6], by simp [f7], by simp [f8], by simp [f48], by simp [f50], by simp [-splice, f0, f1, f5, f6, f7, f8, f48, f50, f59]⟩
                clear f0 f1 f5 f6 f7 f8 f48 f50 f59
                rintro t H n ⟨f0, f1, f5, f6, f7, f8, f48, f50, f62⟩
                refine Stk.on ?_
                exact Stk.ln 0 (by decide) (hJ7 _ _ _ ⟨f0, f1, f5, f6, f7, f8, f48, f50, f62.trans (congrArg (fun q => AV.sc (.bool q)) (by rw [hb7]; rfl))⟩)
              · rw [hb7] at f59
                refine Stk.run 3 (fun t H n => t 0 = .ssl (encs c32 a0) a0.length false ∧ t 1 = .sc (.string a1) ∧ t 5 = .sc (.int .i64 x4) ∧ t 6 = .sc (.int .i64 x5.1) ∧ t 7 = .sc (.int .i64 x5.2.1) ∧ t 8 = .sc (.bool x5.2.2) ∧ t 48 = .sc (.bool false) ∧ t 50 = .sc (.bool true) ∧ t 62 = .sc (.bool (decide (x5.2.1 < 0)))) (fun J hJ => ?_) ?_
                · simp [-splice, f0, f1, f5, f6, f7, f8, f48, f50, f59]
                  exact hJ _ _ _ ⟨by simp [f0], by simp [f1], by simp [f5], by simp [f6], by simp [f7], by simp [f8], by simp [f48], by simp [f50], by simp [-splice, f0, f1, f5, f6, f7, f8, f48, f50, f59]⟩
                clear f0 f1 f5 f6 f7 f8 f48 f50 f59
                rintro t H n ⟨f0, f1, f5, f6, f7, f8, f48, f50, f62⟩
                refine Stk.on ?_
                exact Stk.ln 0 (by decide) (hJ7 _ _ _ ⟨f0, f1, f5, f6, f7, f8, f48, f50, f62.trans (congrArg (fun q => AV.sc (.bool q)) (by rw [hb7]; rfl))⟩)
            clear f0 f1 f5 f6 f7 f8 f48 f50 f59
            rintro t H n ⟨f0, f1, f5, f6, f7, f8, f48, f50, f62⟩
            refine Stk.run 1 (fun t H n => t 0 = .ssl (encs c32 a0) a0.length false ∧ t 1 = .sc (.string a1) ∧ t 5 = .sc (.int .i64 x4) ∧ t 6 = .sc (.int .i64 x5.1) ∧ t 7 = .sc (.int .i64 x5.2.1) ∧ t 8 = .sc (.bool x5.2.2) ∧ t 48 = .sc (.bool false) ∧ t 50 = .sc (.bool true) ∧ t 63 = .sc (.bool (((decide (x5.1 < 0)) || (decide ((a0.length : Int) ≤ x5.1))) || (decide (x5.2.1 < 0))))) (fun J hJ => ?_) ?_
            · simp [-splice, f0, f1, f5, f6, f7, f8, f48, f50, f62]
              exact hJ _ _ _ ⟨by simp [f0], by simp [f1], by simp [f5], by simp [f6], by simp [f7], by simp [f8], by simp [f48], by simp [f50], by simp [-splice, f0, f1, f5, f6, f7, f8, f48, f50, f62]⟩
            clear f0 f1 f5 f6 f7 f8 f48 f50 f62
            rintro t H n ⟨f0, f1, f5, f6, f7, f8, f48, f50, f63⟩
            obtain ⟨K8, hK8, h⟩ := jnd h
            refine Stk.jo 9 (fun t H n => ∃ v11 : Bool, K8 v11 = some r ∧ t 0 = .ssl (encs c32 a0) a0.length false ∧ t 1 = .sc (.string a1) ∧ t 5 = .sc (.int .i64 x4) ∧ t 6 = .sc (.int .i64 x5.1) ∧ t 7 = .sc (.int .i64 x5.2.1) ∧ t 8 = .sc (.bool x5.2.2) ∧ t 48 = .sc (.bool false) ∧ t 50 = .sc (.bool true) ∧ t 72 = .sc (.bool v11)) (fun J8 hJ8 => ?_) ?_
            · rcases Bool.eq_false_or_eq_true (((decide (x5.1 < 0)) || (decide ((a0.length : Int) ≤ x5.1))) || (decide (x5.2.1 < 0))) with hb8 | hb8
              · rw [hb8] at f63
                replace h := cT hb8 h
                refine Stk.run 9 (fun t H n => t 0 = .ssl (encs c32 a0) a0.length false ∧ t 1 = .sc (.string a1) ∧ t 5 = .sc (.int .i64 x4) ∧ t 6 = .sc (.int .i64 x5.1) ∧ t 7 = .sc (.int .i64 x5.2.1) ∧ t 8 = .sc (.bool x5.2.2) ∧ t 48 = .sc (.bool false) ∧ t 50 = .sc (.bool true) ∧ t 72 = .sc (.bool true)) (fun J hJ => ?_) ?_
                · simp [-splice, f0, f1, f5, f6, f7, f8, f48, f50, f63]
                  exact hJ _ _ _ ⟨by simp [f0], by simp [f1], by simp [f5], by simp [f6], by simp [f7], by simp [f8], by simp [f48], by simp [f50], by simp [-splice, f0, f1, f5, f6, f7, f8, f48, f50, f63]⟩
                clear f0 f1 f5 f6 f7 f8 f48 f50 f63
                rintro t H n ⟨f0, f1, f5, f6, f7, f8, f48, f50, f72⟩
                refine Stk.on ?_
                exact Stk.ln 0 (by decide) (hJ8 _ _ _ ⟨true, h, f0, f1, f5, f6, f7, f8, f48, f50, f72⟩)
              · rw [hb8] at f63
                replace h := cF hb8 h
                obtain ⟨x12, hx12, h⟩ := bnd h
                obtain ⟨i0x12, i1x12, i2x12, _⟩ := idx_ok hx12
                have ex12_3_30 : partOf T.T 30 (encs c32 a0) (x5.1.toNat * 4 + 3) = some (.ssl (encs c35 x12.Cons) x12.Cons.length false) := by
                    have e0 := part_elem0 (e := c32) (z := 4) (T := T.T) (ty := 30) T.t30 (by decide) (by decide) hx12 3 (by decide)
                    (try simp only [Nat.mul_one, Nat.add_zero] at e0)
                    exact e0.trans (ld_32_3_30 _)
                refine Stk.run 9 (fun t H n => t 0 = .ssl (encs c32 a0) a0.length false ∧ t 1 = .sc (.string a1) ∧ t 5 = .sc (.int .i64 x4) ∧ t 6 = .sc (.int .i64 x5.1) ∧ t 7 = .sc (.int .i64 x5.2.1) ∧ t 8 = .sc (.bool x5.2.2) ∧ t 48 = .sc (.bool false) ∧ t 50 = .sc (.bool true) ∧ t 72 = .sc (.bool (decide ((x12.Cons.length : Int) ≤ x5.2.1)))) (fun J hJ => ?_) ?_
                · simp [-splice, f0, f1, f5, f6, f7, f8, f48, f50, f63, i0x12, i1x12, pd30, ex12_3_30]
                  exact hJ _ _ _ ⟨by simp [f0], by simp [f1], by simp [f5], by simp [f6], by simp [f7], by simp [f8], by simp [f48], by simp [f50], by simp [-splice, f0, f1, f5, f6, f7, f8, f48, f50, f63, i0x12, i1x12, pd30, ex12_3_30]⟩
                clear f0 f1 f5 f6 f7 f8 f48 f50 f63
                rintro t H n ⟨f0, f1, f5, f6, f7, f8, f48, f50, f72⟩
                refine Stk.on ?_
                exact Stk.ln 0 (by decide) (hJ8 _ _ _ ⟨(decide ((x12.Cons.length : Int) ≤ x5.2.1)), h, f0, f1, f5, f6, f7, f8, f48, f50, f72⟩)
            clear h f0 f1 f5 f6 f7 f8 f48 f50 f63
            rintro t H n ⟨v11, h, f0, f1, f5, f6, f7, f8, f48, f50, f72⟩
            subst hK8
            refine Stk.run 1 (fun t H n => t 0 = .ssl (encs c32 a0) a0.length false ∧ t 1 = .sc (.string a1) ∧ t 5 = .sc (.int .i64 x4) ∧ t 6 = .sc (.int .i64 x5.1) ∧ t 7 = .sc (.int .i64 x5.2.1) ∧ t 8 = .sc (.bool x5.2.2) ∧ t 48 = .sc (.bool false) ∧ t 50 = .sc (.bool true) ∧ t 73 = .sc (.bool v11)) (fun J hJ => ?_) ?_
            · simp [-splice, f0, f1, f5, f6, f7, f8, f48, f50, f72]
              exact hJ _ _ _ ⟨by simp [f0], by simp [f1], by simp [f5], by simp [f6], by simp [f7], by simp [f8], by simp [f48], by simp [f50], by simp [-splice, f0, f1, f5, f6, f7, f8, f48, f50, f72]⟩
            clear f0 f1 f5 f6 f7 f8 f48 f50 f72
            rintro t H n ⟨f0, f1, f5, f6, f7, f8, f48, f50, f73⟩
            obtain ⟨K9, hK9, h⟩ := jnd h
            refine Stk.jo 12 (fun t H n => ∃ v13 : Bool, K9 v13 = some r ∧ t 0 = .ssl (encs c32 a0) a0.length false ∧ t 1 = .sc (.string a1) ∧ t 5 = .sc (.int .i64 x4) ∧ t 6 = .sc (.int .i64 x5.1) ∧ t 7 = .sc (.int .i64 x5.2.1) ∧ t 8 = .sc (.bool x5.2.2) ∧ t 48 = .sc (.bool false) ∧ t 50 = .sc (.bool true) ∧ t 85 = .sc (.bool v13)) (fun J9 hJ9 => ?_) ?_
            · rcases Bool.eq_false_or_eq_true v11 with hb9 | hb9
              · rw [hb9] at f73
                replace h := cT hb9 h
                refine Stk.run 12 (fun t H n => t 0 = .ssl (encs c32 a0) a0.length false ∧ t 1 = .sc (.string a1) ∧ t 5 = .sc (.int .i64 x4) ∧ t 6 = .sc (.int .i64 x5.1) ∧ t 7 = .sc (.int .i64 x5.2.1) ∧ t 8 = .sc (.bool x5.2.2) ∧ t 48 = .sc (.bool false) ∧ t 50 = .sc (.bool true) ∧ t 85 = .sc (.bool true)) (fun J hJ => ?_) ?_
                · simp [-splice, f0, f1, f5, f6, f7, f8, f48, f50, f73]
                  exact hJ _ _ _ ⟨by simp [f0], by simp [f1], by simp [f5], by simp [f6], by simp [f7], by simp [f8], by simp [f48], by simp [f50], by simp [-splice, f0, f1, f5, f6, f7, f8, f48, f50, f73]⟩
                clear f0 f1 f5 f6 f7 f8 f48 f50 f73
                rintro t H n ⟨f0, f1, f5, f6, f7, f8, f48, f50, f85⟩
                refine Stk.on ?_
                exact Stk.ln 0 (by decide) (hJ9 _ _ _ ⟨true, h, f0, f1, f5, f6, f7, f8, f48, f50, f85⟩)
              · rw [hb9] at f73
                replace h := cF hb9 h
                obtain ⟨x14, hx14, h⟩ := bnd h
                obtain ⟨i0x14, i1x14, i2x14, _⟩ := idx_ok hx14
                have ex14_3_30 : partOf T.T 30 (encs c32 a0) (x5.1.toNat * 4 + 3) = some (.ssl (encs c35 x14.Cons) x14.Cons.length false) := by
                    have e0 := part_elem0 (e := c32) (z := 4) (T := T.T) (ty := 30) T.t30 (by decide) (by decide) hx14 3 (by decide)
                    (try simp only [Nat.mul_one, Nat.add_zero] at e0)
                    exact e0.trans (ld_32_3_30 _)
                obtain ⟨x15, hx15, h⟩ := bnd h
                obtain ⟨i0x15, i1x15, i2x15, _⟩ := idx_ok hx15
                have ex15_0_9 : partOf T.T 9 (encs c35 x14.Cons) (x5.2.1.toNat * 2) = some (.sc (.string x15.Name)) := by
                    have e0 := part_elem0 (e := c35) (z := 2) (T := T.T) (ty := 9) T.t9 (by decide) (by decide) hx15 0 (by decide)
                    (try simp only [Nat.mul_one, Nat.add_zero] at e0)
                    exact e0.trans (ld_35_0_9 _)
                refine Stk.run 12 (fun t H n => t 0 = .ssl (encs c32 a0) a0.length false ∧ t 1 = .sc (.string a1) ∧ t 5 = .sc (.int .i64 x4) ∧ t 6 = .sc (.int .i64 x5.1) ∧ t 7 = .sc (.int .i64 x5.2.1) ∧ t 8 = .sc (.bool x5.2.2) ∧ t 48 = .sc (.bool false) ∧ t 50 = .sc (.bool true) ∧ t 85 = .sc (.bool (!(x15.Name.toList == a1.toList)))) (fun J hJ => ?_) ?_
                · simp [-splice, f0, f1, f5, f6, f7, f8, f48, f50, f73, i0x14, i1x14, pd30, ex14_3_30, i0x15, i1x15, pd9, ex15_0_9]
                  exact hJ _ _ _ ⟨by simp [f0], by simp [f1], by simp [f5], by simp [f6], by simp [f7], by simp [f8], by simp [f48], by simp [f50], by simp [-splice, f0, f1, f5, f6, f7, f8, f48, f50, f73, i0x14, i1x14, pd30, ex14_3_30, i0x15, i1x15, pd9, ex15_0_9]⟩
                clear f0 f1 f5 f6 f7 f8 f48 f50 f73
                rintro t H n ⟨f0, f1, f5, f6, f7, f8, f48, f50, f85⟩
                refine Stk.on ?_
                exact Stk.ln 0 (by decide) (hJ9 _ _ _ ⟨(!(x15.Name.toList == a1.toList)), h, f0, f1, f5, f6, f7, f8, f48, f50, f85⟩)
            clear h f0 f1 f5 f6 f7 f8 f48 f50 f73
            rintro t H n ⟨v13, h, f0, f1, f5, f6, f7, f8, f48, f50, f85⟩
            subst hK9
            refine Stk.run 1 (fun t H n => t 0 = .ssl (encs c32 a0) a0.length false ∧ t 1 = .sc (.string a1) ∧ t 5 = .sc (.int .i64 x4) ∧ t 6 = .sc (.int .i64 x5.1) ∧ t 7 = .sc (.int .i64 x5.2.1) ∧ t 8 = .sc (.bool x5.2.2) ∧ t 48 = .sc (.bool false) ∧ t 86 = .sc (.bool v13)) (fun J hJ => ?_) ?_
            · simp [-splice, f0, f1, f5, f6, f7, f8, f48, f50, f85]
              exact hJ _ _ _ ⟨by simp [f0], by simp [f1], by simp [f5], by simp [f6], by simp [f7], by simp [f8], by simp [f48], by simp [-splice, f0, f1, f5, f6, f7, f8, f48, f50, f85]⟩
            clear f0 f1 f5 f6 f7 f8 f48 f50 f85
            rintro t H n ⟨f0, f1, f5, f6, f7, f8, f48, f86⟩
            refine Stk.on ?_
            exact Stk.ln 0 (by decide) (hJ5 _ _ _ ⟨v13, h, f0, f1, f5, f6, f7, f8, f48, f86⟩)
          · rw [hb5] at f50
            replace h := cF hb5 h
            refine Stk.run 36 (fun t H n => t 0 = .ssl (encs c32 a0) a0.length false ∧ t 1 = .sc (.string a1) ∧ t 5 = .sc (.int .i64 x4) ∧ t 6 = .sc (.int .i64 x5.1) ∧ t 7 = .sc (.int .i64 x5.2.1) ∧ t 8 = .sc (.bool x5.2.2) ∧ t 48 = .sc (.bool false) ∧ t 86 = .sc (.bool false)) (fun J hJ => ?_) ?_
            · simp [-splice, f0, f1, f5, f6, f7, f8, f48, f50]
              exact hJ _ _ _ ⟨by simp [f0], by simp [f1], by simp [f5], by simp [f6], by simp [f7], by simp [f8], by simp [f48], by simp [-splice, f0, f1, f5, f6, f7, f8, f48, f50]⟩
            clear f0 f1 f5 f6 f7 f8 f48 f50
            rintro t H n ⟨f0, f1, f5, f6, f7, f8, f48, f86⟩
            refine Stk.on ?_
            exact Stk.ln 0 (by decide) (hJ5 _ _ _ ⟨false, h, f0, f1, f5, f6, f7, f8, f48, f86⟩)
        clear h f0 f1 f5 f6 f7 f8 f48 f50
        rintro t H n ⟨v10, h, f0, f1, f5, f6, f7, f8, f48, f86⟩
        subst hK5
        refine Stk.run 1 (fun t H n => t 0 = .ssl (encs c32 a0) a0.length false ∧ t 1 = .sc (.string a1) ∧ t 5 = .sc (.int .i64 x4) ∧ t 6 = .sc (.int .i64 x5.1) ∧ t 7 = .sc (.int .i64 x5.2.1) ∧ t 8 = .sc (.bool x5.2.2) ∧ t 87 = .sc (.bool v10)) (fun J hJ => ?_) ?_
        · simp [-splice, f0, f1, f5, f6, f7, f8, f48, f86]
          exact hJ _ _ _ ⟨by simp [f0], by simp [f1], by simp [f5], by simp [f6], by simp [f7], by simp [f8], by simp [-splice, f0, f1, f5, f6, f7, f8, f48, f86]⟩
        clear f0 f1 f5 f6 f7 f8 f48 f86
        rintro t H n ⟨f0, f1, f5, f6, f7, f8, f87⟩
        refine Stk.on ?_
        exact Stk.ln 0 (by decide) (hJ4 _ _ _ ⟨v10, h, f0, f1, f5, f6, f7, f8, f87⟩)
    clear h f0 f1 f5 f6 f7 f8 f48
    rintro t H n ⟨v9, h, f0, f1, f5, f6, f7, f8, f87⟩
    subst hK4
    refine Stk.on ?_
    refine Stk.cond v9 (by exact f87) (fun hb16 => ?_) (fun hb16 => ?_)
    · have h := cT hb16 h
      refine Stk.sq ?_
      refine Stk.rg ?_
      refine Stk.run 1 (fun t H n => t 4 = .sc (.bool false)) (fun J hJ => ?_) ?_
      · simp [-splice, f0, f1, f5, f6, f7, f8, f87]
        exact hJ _ _ _ (by simp [-splice, f0, f1, f5, f6, f7, f8, f87])
      clear f0 f1 f5 f6 f7 f8 f87
      rintro t H n f4
      refine Stk.on ?_
      refine Stk.rt ?_
      have hq := Option.some.inj h; subst hq
      exact (hr _ _ _ (.sc (.bool false)) ([]) (by simp [f4]) (.inr (.inr (.free (rfl))))).1
    · have h := cF hb16 h
      refine Stk.sk ?_
      refine Stk.sq ?_
      refine Stk.sq ?_
      refine Stk.rg ?_
      refine Stk.run 3 (fun t H n => t 0 = .ssl (encs c32 a0) a0.length false ∧ t 1 = .sc (.string a1) ∧ t 5 = .sc (.int .i64 x4) ∧ t 6 = .sc (.int .i64 x5.1) ∧ t 7 = .sc (.int .i64 x5.2.1) ∧ t 8 = .sc (.bool x5.2.2) ∧ t 89 = .sc (.int .i64 (a0.length : Int)) ∧ t 90 = .sc (.int .i64 0)) (fun J hJ => ?_) ?_
      · simp [-splice, f0, f1, f5, f6, f7, f8, f87]
        exact hJ _ _ _ ⟨by simp [f0], by simp [f1], by simp [f5], by simp [f6], by simp [f7], by simp [f8], by simp [-splice, f0, f1, f5, f6, f7, f8, f87], by simp [-splice, f0, f1, f5, f6, f7, f8, f87]⟩
      clear f0 f1 f5 f6 f7 f8 f87
      rintro t H n ⟨f0, f1, f5, f6, f7, f8, f89, f90⟩
      refine Stk.on ?_
      refine Stk.bk ?_
      refine Stk.lo (fun μ t H n => ∃ v17 : Int, L07_TyNames_L0 F a0 a1 x4 x5 μ v17 = some r ∧ t 0 = .ssl (encs c32 a0) a0.length false ∧ t 1 = .sc (.string a1) ∧ t 5 = .sc (.int .i64 x4) ∧ t 6 = .sc (.int .i64 x5.1) ∧ t 7 = .sc (.int .i64 x5.2.1) ∧ t 8 = .sc (.bool x5.2.2) ∧ t 89 = .sc (.int .i64 (a0.length : Int)) ∧ t 90 = .sc (.int .i64 v17)) F ⟨0, h, f0, f1, f5, f6, f7, f8, f89, f90⟩ ?_
      clear h f0 f1 f5 f6 f7 f8 f89 f90
      rintro J10 hJ10 μ t H n ⟨v17, h, f0, f1, f5, f6, f7, f8, f89, f90⟩
      cases μ with
      | zero => exact absurd h (by simp [L07_TyNames_L0])
      | succ μ =>
      rw [L07_TyNames_L0] at h
      refine Stk.sq ?_
      refine Stk.rg ?_
      refine Stk.run 1 (fun t H n => t 0 = .ssl (encs c32 a0) a0.length false ∧ t 1 = .sc (.string a1) ∧ t 5 = .sc (.int .i64 x4) ∧ t 6 = .sc (.int .i64 x5.1) ∧ t 7 = .sc (.int .i64 x5.2.1) ∧ t 8 = .sc (.bool x5.2.2) ∧ t 89 = .sc (.int .i64 (a0.length : Int)) ∧ t 90 = .sc (.int .i64 v17) ∧ t 91 = .sc (.bool (decide (v17 < (a0.length : Int))))) (fun J hJ => ?_) ?_
      · simp [-splice, f0, f1, f5, f6, f7, f8, f89, f90]
        exact hJ _ _ _ ⟨by simp [f0], by simp [f1], by simp [f5], by simp [f6], by simp [f7], by simp [f8], by simp [f89], by simp [f90], by simp [-splice, f0, f1, f5, f6, f7, f8, f89, f90]⟩
      clear f0 f1 f5 f6 f7 f8 f89 f90
      rintro t H n ⟨f0, f1, f5, f6, f7, f8, f89, f90, f91⟩
      refine Stk.on ?_
      refine Stk.sq ?_
      refine Stk.cond (decide (v17 < (a0.length : Int))) (by exact f91) (fun hb19 => ?_) (fun hb19 => ?_)
      · have h := cT hb19 h
        refine Stk.sk ?_
        refine Stk.sq ?_
        refine Stk.bk ?_
        refine Stk.sq ?_
        refine Stk.rg ?_
        refine Stk.run 2 (fun t H n => t 0 = .ssl (encs c32 a0) a0.length false ∧ t 1 = .sc (.string a1) ∧ t 5 = .sc (.int .i64 x4) ∧ t 6 = .sc (.int .i64 x5.1) ∧ t 7 = .sc (.int .i64 x5.2.1) ∧ t 8 = .sc (.bool x5.2.2) ∧ t 9 = .sc (.int .i64 v17) ∧ t 89 = .sc (.int .i64 (a0.length : Int)) ∧ t 90 = .sc (.int .i64 v17)) (fun J hJ => ?_) ?_
        · simp [-splice, f0, f1, f5, f6, f7, f8, f89, f90, f91]
          exact hJ _ _ _ ⟨by simp [f0], by simp [f1], by simp [f5], by simp [f6], by simp [f7], by simp [f8], by simp [-splice, f0, f1, f5, f6, f7, f8, f89, f90, f91], by simp [f89], by simp [f90]⟩
        clear f0 f1 f5 f6 f7 f8 f89 f90 f91
        rintro t H n ⟨f0, f1, f5, f6, f7, f8, f9, f89, f90⟩
        refine Stk.on ?_
        refine Stk.sq ?_
        refine Stk.sq ?_
        refine Stk.rg ?_
        refine Stk.run 3 (fun t H n => t 0 = .ssl (encs c32 a0) a0.length false ∧ t 1 = .sc (.string a1) ∧ t 5 = .sc (.int .i64 x4) ∧ t 6 = .sc (.int .i64 x5.1) ∧ t 7 = .sc (.int .i64 x5.2.1) ∧ t 8 = .sc (.bool x5.2.2) ∧ t 9 = .sc (.int .i64 v17) ∧ t 89 = .sc (.int .i64 (a0.length : Int)) ∧ t 90 = .sc (.int .i64 v17) ∧ t 95 = .sc (.bool (decide (x4 < 0)))) (fun J hJ => ?_) ?_
        · simp [-splice, f0, f1, f5, f6, f7, f8, f9, f89, f90]
          exact hJ _ _ _ ⟨by simp [f0], by simp [f1], by simp [f5], by simp [f6], by simp [f7], by simp [f8], by simp [f9], by simp [f89], by simp [f90], by simp [-splice, f0, f1, f5, f6, f7, f8, f9, f89, f90]⟩
        clear f0 f1 f5 f6 f7 f8 f9 f89 f90
        rintro t H n ⟨f0, f1, f5, f6, f7, f8, f9, f89, f90, f95⟩
        refine Stk.jo 4 (fun t H n => t 0 = .ssl (encs c32 a0) a0.length false ∧ t 1 = .sc (.string a1) ∧ t 5 = .sc (.int .i64 x4) ∧ t 6 = .sc (.int .i64 x5.1) ∧ t 7 = .sc (.int .i64 x5.2.1) ∧ t 8 = .sc (.bool x5.2.2) ∧ t 9 = .sc (.int .i64 v17) ∧ t 89 = .sc (.int .i64 (a0.length : Int)) ∧ t 90 = .sc (.int .i64 v17) ∧ t 99 = .sc (.bool ((decide (x4 < 0)) || (decide (v17 < x4))))) (fun J11 hJ11 => ?_) ?_
        · rcases Bool.eq_false_or_eq_true (decide (x4 < 0)) with hb11 | hb11
          · rw [hb11] at f95
            refine Stk.run 4 (fun t H n => t 0 = .ssl (encs c32 a0) a0.length false ∧ t 1 = .sc (.string a1) ∧ t 5 = .sc (.int .i64 x4) ∧ t 6 = .sc (.int .i64 x5.1) ∧ t 7 = .sc (.int .i64 x5.2.1) ∧ t 8 = .sc (.bool x5.2.2) ∧ t 9 = .sc (.int .i64 v17) ∧ t 89 = .sc (.int .i64 (a0.length : Int)) ∧ t 90 = .sc (.int .i64 v17) ∧ t 99 = .sc (.bool true)) (fun J hJ => ?_) ?_
            · simp [-splice, f0, f1, f5, f6, f7, f8, f9, f89, f90, f95]
              exact hJ _ _ _ ⟨by simp [f0], by simp [f1], by simp [f5], by simp [f6], by simp [f7], by simp [f8], by simp [f9], by simp [f89], by simp [f90], by simp [-splice, f0, f1, f5, f6, f7, f8, f9, f89, f90, f95]⟩
            clear f0 f1 f5 f6 f7 f8 f9 f89 f90 f95
            rintro t H n ⟨f0, f1, f5, f6, f7, f8, f9, f89, f90, f99⟩
            refine Stk.on ?_
            exact Stk.ln 0 (by decide) (hJ11 _ _ _ ⟨f0, f1, f5, f6, f7, f8, f9, f89, f90, f99.trans (congrArg (fun q => AV.sc (.bool q)) (by rw [hb11]; rfl))⟩)
          · rw [hb11] at f95
            refine Stk.run 4 (fun t H n => t 0 = .ssl (encs c32 a0) a0.length false ∧ t 1 = .sc (.string a1) ∧ t 5 = .sc (.int .i64 x4) ∧ t 6 = .sc (.int .i64 x5.1) ∧ t 7 = .sc (.int .i64 x5.2.1) ∧ t 8 = .sc (.bool x5.2.2) ∧ t 9 = .sc (.int .i64 v17) ∧ t 89 = .sc (.int .i64 (a0.length : Int)) ∧ t 90 = .sc (.int .i64 v17) ∧ t 99 = .sc (.bool (decide (v17 < x4)))) (fun J hJ => ?_) ?_
            · simp [-splice, f0, f1, f5, f6, f7, f8, f9, f89, f90, f95]
              exact hJ _ _ _ ⟨by simp [f0], by simp [f1], by simp [f5], by simp [f6], by simp [f7], by simp [f8], by simp [f9], by simp [f89], by simp [f90], by simp [-splice, f0, f1, f5, f6, f7, f8, f9, f89, f90, f95]⟩
            clear f0 f1 f5 f6 f7 f8 f9 f89 f90 f95
            rintro t H n ⟨f0, f1, f5, f6, f7, f8, f9, f89, f90, f99⟩
            refine Stk.on ?_
            exact Stk.ln 0 (by decide) (hJ11 _ _ _ ⟨f0, f1, f5, f6, f7, f8, f9, f89, f90, f99.trans (congrArg (fun q => AV.sc (.bool q)) (by rw [hb11]; rfl))⟩)
        clear f0 f1 f5 f6 f7 f8 f9 f89 f90 f95
        rintro t H n ⟨f0, f1, f5, f6, f7, f8, f9, f89, f90, f99⟩
        refine Stk.run 1 (fun t H n => t 0 = .ssl (encs c32 a0) a0.length false ∧ t 1 = .sc (.string a1) ∧ t 5 = .sc (.int .i64 x4) ∧ t 6 = .sc (.int .i64 x5.1) ∧ t 7 = .sc (.int .i64 x5.2.1) ∧ t 8 = .sc (.bool x5.2.2) ∧ t 9 = .sc (.int .i64 v17) ∧ t 89 = .sc (.int .i64 (a0.length : Int)) ∧ t 90 = .sc (.int .i64 v17) ∧ t 100 = .sc (.bool ((decide (x4 < 0)) || (decide (v17 < x4))))) (fun J hJ => ?_) ?_
        · simp [-splice, f0, f1, f5, f6, f7, f8, f9, f89, f90, f99]
          exact hJ _ _ _ ⟨by simp [f0], by simp [f1], by simp [f5], by simp [f6], by simp [f7], by simp [f8], by simp [f9], by simp [f89], by simp [f90], by simp [-splice, f0, f1, f5, f6, f7, f8, f9, f89, f90, f99]⟩
        clear f0 f1 f5 f6 f7 f8 f9 f89 f90 f99
        rintro t H n ⟨f0, f1, f5, f6, f7, f8, f9, f89, f90, f100⟩
        obtain ⟨K12, hK12, h⟩ := jnd h
        refine Stk.jo 8 (fun t H n => ∃ v20 : Bool, K12 v20 = some r ∧ t 0 = .ssl (encs c32 a0) a0.length false ∧ t 1 = .sc (.string a1) ∧ t 5 = .sc (.int .i64 x4) ∧ t 6 = .sc (.int .i64 x5.1) ∧ t 7 = .sc (.int .i64 x5.2.1) ∧ t 8 = .sc (.bool x5.2.2) ∧ t 9 = .sc (.int .i64 v17) ∧ t 89 = .sc (.int .i64 (a0.length : Int)) ∧ t 90 = .sc (.int .i64 v17) ∧ t 108 = .sc (.bool v20)) (fun J12 hJ12 => ?_) ?_
        · rcases Bool.eq_false_or_eq_true ((decide (x4 < 0)) || (decide (v17 < x4))) with hb12 | hb12
          · rw [hb12] at f100
            replace h := cT hb12 h
            obtain ⟨x21, hx21, h⟩ := bnd h
            obtain ⟨i0x21, i1x21, i2x21, _⟩ := idx_ok hx21
            have ex21_2_9 : partOf T.T 9 (encs c32 a0) (v17.toNat * 4 + 2) = some (.sc (.string x21.Name)) := by
                have e0 := part_elem0 (e := c32) (z := 4) (T := T.T) (ty := 9) T.t9 (by decide) (by decide) hx21 2 (by decide)
                (try simp only [Nat.mul_one, Nat.add_zero] at e0)
                exact e0.trans (ld_32_2_9 _)
            refine Stk.run 8 (fun t H n => t 0 = .ssl (encs c32 a0) a0.length false ∧ t 1 = .sc (.string a1) ∧ t 5 = .sc (.int .i64 x4) ∧ t 6 = .sc (.int .i64 x5.1) ∧ t 7 = .sc (.int .i64 x5.2.1) ∧ t 8 = .sc (.bool x5.2.2) ∧ t 9 = .sc (.int .i64 v17) ∧ t 89 = .sc (.int .i64 (a0.length : Int)) ∧ t 90 = .sc (.int .i64 v17) ∧ t 108 = .sc (.bool (x21.Name.toList == a1.toList))) (fun J hJ => ?_) ?_
            · simp [-splice, f0, f1, f5, f6, f7, f8, f9, f89, f90, f100, i0x21, i1x21, pd9, ex21_2_9]
              exact hJ _ _ _ ⟨by simp [f0], by simp [f1], by simp [f5], by simp [f6], by simp [f7], by simp [f8], by simp [f9], by simp [f89], by simp [f90], by simp [-splice, f0, f1, f5, f6, f7, f8, f9, f89, f90, f100, i0x21, i1x21, pd9, ex21_2_9]⟩
            clear f0 f1 f5 f6 f7 f8 f9 f89 f90 f100
            rintro t H n ⟨f0, f1, f5, f6, f7, f8, f9, f89, f90, f108⟩
            refine Stk.on ?_
            exact Stk.ln 0 (by decide) (hJ12 _ _ _ ⟨(x21.Name.toList == a1.toList), h, f0, f1, f5, f6, f7, f8, f9, f89, f90, f108⟩)
          · rw [hb12] at f100
            replace h := cF hb12 h
            refine Stk.run 8 (fun t H n => t 0 = .ssl (encs c32 a0) a0.length false ∧ t 1 = .sc (.string a1) ∧ t 5 = .sc (.int .i64 x4) ∧ t 6 = .sc (.int .i64 x5.1) ∧ t 7 = .sc (.int .i64 x5.2.1) ∧ t 8 = .sc (.bool x5.2.2) ∧ t 9 = .sc (.int .i64 v17) ∧ t 89 = .sc (.int .i64 (a0.length : Int)) ∧ t 90 = .sc (.int .i64 v17) ∧ t 108 = .sc (.bool false)) (fun J hJ => ?_) ?_
            · simp [-splice, f0, f1, f5, f6, f7, f8, f9, f89, f90, f100]
              exact hJ _ _ _ ⟨by simp [f0], by simp [f1], by simp [f5], by simp [f6], by simp [f7], by simp [f8], by simp [f9], by simp [f89], by simp [f90], by simp [-splice, f0, f1, f5, f6, f7, f8, f9, f89, f90, f100]⟩
            clear f0 f1 f5 f6 f7 f8 f9 f89 f90 f100
            rintro t H n ⟨f0, f1, f5, f6, f7, f8, f9, f89, f90, f108⟩
            refine Stk.on ?_
            exact Stk.ln 0 (by decide) (hJ12 _ _ _ ⟨false, h, f0, f1, f5, f6, f7, f8, f9, f89, f90, f108⟩)
        clear h f0 f1 f5 f6 f7 f8 f9 f89 f90 f100
        rintro t H n ⟨v20, h, f0, f1, f5, f6, f7, f8, f9, f89, f90, f108⟩
        subst hK12
        refine Stk.on ?_
        refine Stk.cond v20 (by exact f108) (fun hb22 => ?_) (fun hb22 => ?_)
        · have h := cT hb22 h
          refine Stk.sq ?_
          refine Stk.rg ?_
          refine Stk.run 1 (fun t H n => t 4 = .sc (.bool false)) (fun J hJ => ?_) ?_
          · simp [-splice, f0, f1, f5, f6, f7, f8, f9, f89, f90, f108]
            exact hJ _ _ _ (by simp [-splice, f0, f1, f5, f6, f7, f8, f9, f89, f90, f108])
          clear f0 f1 f5 f6 f7 f8 f9 f89 f90 f108
          rintro t H n f4
          refine Stk.on ?_
          refine Stk.rt ?_
          have hq := Option.some.inj h; subst hq
          exact (hr _ _ _ (.sc (.bool false)) ([]) (by simp [f4]) (.inr (.inr (.free (rfl))))).1
        · have h := cF hb22 h
          refine Stk.sk ?_
          refine Stk.sq ?_
          refine Stk.rg ?_
          obtain ⟨x23, hx23, h⟩ := bnd h
          obtain ⟨i0x23, i1x23, i2x23, _⟩ := idx_ok hx23
          have ex23_3_30 : partOf T.T 30 (encs c32 a0) (v17.toNat * 4 + 3) = some (.ssl (encs c35 x23.Cons) x23.Cons.length false) := by
              have e0 := part_elem0 (e := c32) (z := 4) (T := T.T) (ty := 30) T.t30 (by decide) (by decide) hx23 3 (by decide)
              (try simp only [Nat.mul_one, Nat.add_zero] at e0)
              exact e0.trans (ld_32_3_30 _)
          refine Stk.run 7 (fun t H n => t 0 = .ssl (encs c32 a0) a0.length false ∧ t 1 = .sc (.string a1) ∧ t 5 = .sc (.int .i64 x4) ∧ t 6 = .sc (.int .i64 x5.1) ∧ t 7 = .sc (.int .i64 x5.2.1) ∧ t 8 = .sc (.bool x5.2.2) ∧ t 9 = .sc (.int .i64 v17) ∧ t 89 = .sc (.int .i64 (a0.length : Int)) ∧ t 90 = .sc (.int .i64 v17) ∧ t 113 = .ssl (encs c35 x23.Cons) x23.Cons.length false ∧ t 114 = .sc (.int .i64 (x23.Cons.length : Int)) ∧ t 115 = .sc (.int .i64 0)) (fun J hJ => ?_) ?_
          · simp [-splice, f0, f1, f5, f6, f7, f8, f9, f89, f90, f108, i0x23, i1x23, pd30, ex23_3_30]
            exact hJ _ _ _ ⟨by simp [f0], by simp [f1], by simp [f5], by simp [f6], by simp [f7], by simp [f8], by simp [f9], by simp [f89], by simp [f90], by simp [-splice, f0, f1, f5, f6, f7, f8, f9, f89, f90, f108, i0x23, i1x23, pd30, ex23_3_30], by simp [-splice, f0, f1, f5, f6, f7, f8, f9, f89, f90, f108, i0x23, i1x23, pd30, ex23_3_30], by simp [-splice, f0, f1, f5, f6, f7, f8, f9, f89, f90, f108, i0x23, i1x23, pd30, ex23_3_30]⟩
          clear f0 f1 f5 f6 f7 f8 f9 f89 f90 f108
          rintro t H n ⟨f0, f1, f5, f6, f7, f8, f9, f89, f90, f113, f114, f115⟩
          refine Stk.on ?_
          obtain ⟨K13, hK13, h⟩ := jnd h
          refine Stk.jn (fun t H n => K13 () = some r ∧ t 0 = .ssl (encs c32 a0) a0.length false ∧ t 1 = .sc (.string a1) ∧ t 5 = .sc (.int .i64 x4) ∧ t 6 = .sc (.int .i64 x5.1) ∧ t 7 = .sc (.int .i64 x5.2.1) ∧ t 8 = .sc (.bool x5.2.2) ∧ t 89 = .sc (.int .i64 (a0.length : Int)) ∧ t 90 = .sc (.int .i64 v17)) trivial (fun J13 hJ13 => ?_) ?_
          · skip
            refine Stk.bk ?_
            refine Stk.lo (fun μ t H n => ∃ v24 : Int, L07_TyNames_L1 F a1 x5 v17 x23 K13 μ v24 = some r ∧ t 0 = .ssl (encs c32 a0) a0.length false ∧ t 1 = .sc (.string a1) ∧ t 5 = .sc (.int .i64 x4) ∧ t 6 = .sc (.int .i64 x5.1) ∧ t 7 = .sc (.int .i64 x5.2.1) ∧ t 8 = .sc (.bool x5.2.2) ∧ t 9 = .sc (.int .i64 v17) ∧ t 89 = .sc (.int .i64 (a0.length : Int)) ∧ t 90 = .sc (.int .i64 v17) ∧ t 113 = .ssl (encs c35 x23.Cons) x23.Cons.length false ∧ t 114 = .sc (.int .i64 (x23.Cons.length : Int)) ∧ t 115 = .sc (.int .i64 v24)) F ⟨0, h, f0, f1, f5, f6, f7, f8, f9, f89, f90, f113, f114, f115⟩ ?_
            clear h f0 f1 f5 f6 f7 f8 f9 f89 f90 f113 f114 f115
            rintro J14 hJ14 μ t H n ⟨v24, h, f0, f1, f5, f6, f7, f8, f9, f89, f90, f113, f114, f115⟩
            cases μ with
            | zero => exact absurd h (by simp [L07_TyNames_L1])
            | succ μ =>
            rw [L07_TyNames_L1] at h
            refine Stk.sq ?_
            refine Stk.rg ?_
            refine Stk.run 1 (fun t H n => t 0 = .ssl (encs c32 a0) a0.length false ∧ t 1 = .sc (.string a1) ∧ t 5 = .sc (.int .i64 x4) ∧ t 6 = .sc (.int .i64 x5.1) ∧ t 7 = .sc (.int .i64 x5.2.1) ∧ t 8 = .sc (.bool x5.2.2) ∧ t 9 = .sc (.int .i64 v17) ∧ t 89 = .sc (.int .i64 (a0.length : Int)) ∧ t 90 = .sc (.int .i64 v17) ∧ t 113 = .ssl (encs c35 x23.Cons) x23.Cons.length false ∧ t 114 = .sc (.int .i64 (x23.Cons.length : Int)) ∧ t 115 = .sc (.int .i64 v24) ∧ t 116 = .sc (.bool (decide (v24 < (x23.Cons.length : Int))))) (fun J hJ => ?_) ?_
            · simp [-splice, f0, f1, f5, f6, f7, f8, f9, f89, f90, f113, f114, f115]
              exact hJ _ _ _ ⟨by simp [f0], by simp [f1], by simp [f5], by simp [f6], by simp [f7], by simp [f8], by simp [f9], by simp [f89], by simp [f90], by simp [f113], by simp [f114], by simp [f115], by simp [-splice, f0, f1, f5, f6, f7, f8, f9, f89, f90, f113, f114, f115]⟩
            clear f0 f1 f5 f6 f7 f8 f9 f89 f90 f113 f114 f115
            rintro t H n ⟨f0, f1, f5, f6, f7, f8, f9, f89, f90, f113, f114, f115, f116⟩
            refine Stk.on ?_
            refine Stk.sq ?_
            refine Stk.cond (decide (v24 < (x23.Cons.length : Int))) (by exact f116) (fun hb26 => ?_) (fun hb26 => ?_)
            · have h := cT hb26 h
              refine Stk.sk ?_
              refine Stk.sq ?_
              refine Stk.bk ?_
              refine Stk.sq ?_
              refine Stk.rg ?_
              obtain ⟨x27, hx27, h⟩ := bnd h
              obtain ⟨i0x27, i1x27, i2x27, _⟩ := idx_ok hx27
              have ex27_0_35 : partOf T.T 35 (encs c35 x23.Cons) (v24.toNat * 2) = some (.agg (c35 x27)) := by
                  have e0 := part_elem0 (e := c35) (z := 2) (T := T.T) (ty := 35) T.t35 (by decide) (by decide) hx27 0 (by decide)
                  (try simp only [Nat.mul_one, Nat.add_zero] at e0)
                  exact e0.trans (ld_35_0_35 _)
              refine Stk.run 3 (fun t H n => t 0 = .ssl (encs c32 a0) a0.length false ∧ t 1 = .sc (.string a1) ∧ t 5 = .sc (.int .i64 x4) ∧ t 6 = .sc (.int .i64 x5.1) ∧ t 7 = .sc (.int .i64 x5.2.1) ∧ t 8 = .sc (.bool x5.2.2) ∧ t 9 = .sc (.int .i64 v17) ∧ t 89 = .sc (.int .i64 (a0.length : Int)) ∧ t 90 = .sc (.int .i64 v17) ∧ t 113 = .ssl (encs c35 x23.Cons) x23.Cons.length false ∧ t 114 = .sc (.int .i64 (x23.Cons.length : Int)) ∧ t 115 = .sc (.int .i64 v24) ∧ t 117 = .sc (.int .i64 v24) ∧ t 119 = .agg (c35 x27)) (fun J hJ => ?_) ?_
              · simp [-splice, f0, f1, f5, f6, f7, f8, f9, f89, f90, f113, f114, f115, f116, i0x27, i1x27, pd35, ex27_0_35]
                exact hJ _ _ _ ⟨by simp [f0], by simp [f1], by simp [f5], by simp [f6], by simp [f7], by simp [f8], by simp [f9], by simp [f89], by simp [f90], by simp [f113], by simp [f114], by simp [f115], by simp [-splice, f0, f1, f5, f6, f7, f8, f9, f89, f90, f113, f114, f115, f116, i0x27, i1x27, pd35, ex27_0_35], by simp [-splice, f0, f1, f5, f6, f7, f8, f9, f89, f90, f113, f114, f115, f116, i0x27, i1x27, pd35, ex27_0_35]⟩
              clear f0 f1 f5 f6 f7 f8 f9 f89 f90 f113 f114 f115 f116
              rintro t H n ⟨f0, f1, f5, f6, f7, f8, f9, f89, f90, f113, f114, f115, f117, f119⟩
              refine Stk.oz T.t35 (cs := c35 (api_Con.mk ⟨#[]⟩ [])) (by rfl) rfl (by simp [f0, f1, f5, f6, f7, f8, f9, f89, f90, f113, f114, f115, f117, f119]) rfl (fun t' ht' => ?_)
              refine Stk.gen (fun t H n => ∃ b28, t 0 = .ssl (encs c32 a0) a0.length false ∧ t 1 = .sc (.string a1) ∧ t 5 = .sc (.int .i64 x4) ∧ t 6 = .sc (.int .i64 x5.1) ∧ t 7 = .sc (.int .i64 x5.2.1) ∧ t 8 = .sc (.bool x5.2.2) ∧ t 9 = .sc (.int .i64 v17) ∧ t 11 = .own b28 0 ∧ t 89 = .sc (.int .i64 (a0.length : Int)) ∧ t 90 = .sc (.int .i64 v17) ∧ t 113 = .ssl (encs c35 x23.Cons) x23.Cons.length false ∧ t 114 = .sc (.int .i64 (x23.Cons.length : Int)) ∧ t 115 = .sc (.int .i64 v24) ∧ t 117 = .sc (.int .i64 v24) ∧ t 119 = .agg (c35 x27) ∧ H b28 = some (.cells (c35 (api_Con.mk ⟨#[]⟩ [])) 35) ∧ b28 < n) ⟨n, by simp [ht', f0], by simp [ht', f1], by simp [ht', f5], by simp [ht', f6], by simp [ht', f7], by simp [ht', f8], by simp [ht', f9], by simp [ht'], by simp [ht', f89], by simp [ht', f90], by simp [ht', f113], by simp [ht', f114], by simp [ht', f115], by simp [ht', f117], by simp [ht', f119], upd_same _ _ _, Nat.lt_succ_self _⟩ ?_
              clear f0 f1 f5 f6 f7 f8 f9 f89 f90 f113 f114 f115 f117 f119 ht' t'
              rintro t H n ⟨b28, f0, f1, f5, f6, f7, f8, f9, f11, f89, f90, f113, f114, f115, f117, f119, b_b28, l_b28⟩
              refine Stk.run 1 (fun t H n => t 0 = .ssl (encs c32 a0) a0.length false ∧ t 1 = .sc (.string a1) ∧ t 5 = .sc (.int .i64 x4) ∧ t 6 = .sc (.int .i64 x5.1) ∧ t 7 = .sc (.int .i64 x5.2.1) ∧ t 8 = .sc (.bool x5.2.2) ∧ t 9 = .sc (.int .i64 v17) ∧ t 10 = .sc (.int .i64 v24) ∧ t 11 = .own b28 0 ∧ t 89 = .sc (.int .i64 (a0.length : Int)) ∧ t 90 = .sc (.int .i64 v17) ∧ t 113 = .ssl (encs c35 x23.Cons) x23.Cons.length false ∧ t 114 = .sc (.int .i64 (x23.Cons.length : Int)) ∧ t 115 = .sc (.int .i64 v24) ∧ t 119 = .agg (c35 x27) ∧ H b28 = some (.cells (c35 (api_Con.mk ⟨#[]⟩ [])) 35) ∧ b28 < n) (fun J hJ => ?_) ?_
              · simp [-splice, f0, f1, f5, f6, f7, f8, f9, f11, f89, f90, f113, f114, f115, f117, f119, b_b28]
                exact hJ _ _ _ ⟨by simp [f0], by simp [f1], by simp [f5], by simp [f6], by simp [f7], by simp [f8], by simp [f9], by simp [-splice, f0, f1, f5, f6, f7, f8, f9, f11, f89, f90, f113, f114, f115, f117, f119, b_b28], by simp [f11], by simp [f89], by simp [f90], by simp [f113], by simp [f114], by simp [f115], by simp [f119], b_b28, l_b28⟩
              clear f0 f1 f5 f6 f7 f8 f9 f11 f89 f90 f113 f114 f115 f117 f119 b_b28 l_b28
              rintro t H n ⟨f0, f1, f5, f6, f7, f8, f9, f10, f11, f89, f90, f113, f114, f115, f119, b_b28, l_b28⟩
              refine Stk.om (mop_store (z := 2) rfl f11 b_b28 f119 (len35 _) (by rw [len35]; decide) (ok35 _) (st_35_0_35 _ _)) (by simp [f0, f1, f5, f6, f7, f8, f9, f10, f11, f89, f90, f113, f114, f115, f119]) rfl (fun t' ht' => ?_)
              refine Stk.gen (fun t H n => t 0 = .ssl (encs c32 a0) a0.length false ∧ t 1 = .sc (.string a1) ∧ t 5 = .sc (.int .i64 x4) ∧ t 6 = .sc (.int .i64 x5.1) ∧ t 7 = .sc (.int .i64 x5.2.1) ∧ t 8 = .sc (.bool x5.2.2) ∧ t 9 = .sc (.int .i64 v17) ∧ t 10 = .sc (.int .i64 v24) ∧ t 11 = .own b28 0 ∧ t 89 = .sc (.int .i64 (a0.length : Int)) ∧ t 90 = .sc (.int .i64 v17) ∧ t 113 = .ssl (encs c35 x23.Cons) x23.Cons.length false ∧ t 114 = .sc (.int .i64 (x23.Cons.length : Int)) ∧ t 115 = .sc (.int .i64 v24) ∧ H b28 = some (.cells (c35 x27) 35) ∧ b28 < n) ⟨by simp [ht', f0], by simp [ht', f1], by simp [ht', f5], by simp [ht', f6], by simp [ht', f7], by simp [ht', f8], by simp [ht', f9], by simp [ht', f10], by simp [ht', f11], by simp [ht', f89], by simp [ht', f90], by simp [ht', f113], by simp [ht', f114], by simp [ht', f115], upd_same _ _ _, l_b28⟩ ?_
              clear f0 f1 f5 f6 f7 f8 f9 f10 f11 f89 f90 f113 f114 f115 f119 b_b28 l_b28 ht' t'
              rintro t H n ⟨f0, f1, f5, f6, f7, f8, f9, f10, f11, f89, f90, f113, f114, f115, b_b28, l_b28⟩
              refine Stk.on ?_
              refine Stk.sq ?_
              refine Stk.rg ?_
              refine Stk.run 5 (fun t H n => t 0 = .ssl (encs c32 a0) a0.length false ∧ t 1 = .sc (.string a1) ∧ t 5 = .sc (.int .i64 x4) ∧ t 6 = .sc (.int .i64 x5.1) ∧ t 7 = .sc (.int .i64 x5.2.1) ∧ t 8 = .sc (.bool x5.2.2) ∧ t 9 = .sc (.int .i64 v17) ∧ t 10 = .sc (.int .i64 v24) ∧ t 89 = .sc (.int .i64 (a0.length : Int)) ∧ t 90 = .sc (.int .i64 v17) ∧ t 113 = .ssl (encs c35 x23.Cons) x23.Cons.length false ∧ t 114 = .sc (.int .i64 (x23.Cons.length : Int)) ∧ t 115 = .sc (.int .i64 v24) ∧ t 124 = .sc (.bool (x27.Name.toList == a1.toList))) (fun J hJ => ?_) ?_
              · simp [-splice, f0, f1, f5, f6, f7, f8, f9, f10, f11, f89, f90, f113, f114, f115, b_b28, ld_35_0_9]
                exact hJ _ _ _ ⟨by simp [f0], by simp [f1], by simp [f5], by simp [f6], by simp [f7], by simp [f8], by simp [f9], by simp [f10], by simp [f89], by simp [f90], by simp [f113], by simp [f114], by simp [f115], by simp [-splice, f0, f1, f5, f6, f7, f8, f9, f10, f11, f89, f90, f113, f114, f115, b_b28, ld_35_0_9]⟩
              clear f0 f1 f5 f6 f7 f8 f9 f10 f11 f89 f90 f113 f114 f115 b_b28 l_b28
              rintro t H n ⟨f0, f1, f5, f6, f7, f8, f9, f10, f89, f90, f113, f114, f115, f124⟩
              refine Stk.jo 18 (fun t H n => t 0 = .ssl (encs c32 a0) a0.length false ∧ t 1 = .sc (.string a1) ∧ t 5 = .sc (.int .i64 x4) ∧ t 6 = .sc (.int .i64 x5.1) ∧ t 7 = .sc (.int .i64 x5.2.1) ∧ t 8 = .sc (.bool x5.2.2) ∧ t 9 = .sc (.int .i64 v17) ∧ t 89 = .sc (.int .i64 (a0.length : Int)) ∧ t 90 = .sc (.int .i64 v17) ∧ t 113 = .ssl (encs c35 x23.Cons) x23.Cons.length false ∧ t 114 = .sc (.int .i64 (x23.Cons.length : Int)) ∧ t 115 = .sc (.int .i64 v24) ∧ t 142 = .sc (.bool ((x27.Name.toList == a1.toList) && (((!x5.2.2) || (decide (v17 < x5.1))) || ((v17 == x5.1) && (decide (v24 < x5.2.1))))))) (fun J15 hJ15 => ?_) ?_
              · rcases Bool.eq_false_or_eq_true (x27.Name.toList == a1.toList) with hb15 | hb15
                · rw [hb15] at f124
                  refine Stk.run 3 (fun t H n => t 0 = .ssl (encs c32 a0) a0.length false ∧ t 1 = .sc (.string a1) ∧ t 5 = .sc (.int .i64 x4) ∧ t 6 = .sc (.int .i64 x5.1) ∧ t 7 = .sc (.int .i64 x5.2.1) ∧ t 8 = .sc (.bool x5.2.2) ∧ t 9 = .sc (.int .i64 v17) ∧ t 10 = .sc (.int .i64 v24) ∧ t 89 = .sc (.int .i64 (a0.length : Int)) ∧ t 90 = .sc (.int .i64 v17) ∧ t 113 = .ssl (encs c35 x23.Cons) x23.Cons.length false ∧ t 114 = .sc (.int .i64 (x23.Cons.length : Int)) ∧ t 115 = .sc (.int .i64 v24) ∧ t 124 = .sc (.bool true) ∧ t 127 = .sc (.bool (!x5.2.2))) (fun J hJ => ?_) ?_
                  · simp [-splice, f0, f1, f5, f6, f7, f8, f9, f10, f89, f90, f113, f114, f115, f124]
                    exact hJ _ _ _ ⟨by simp [f0], by simp [f1], by simp [f5], by simp [f6], by simp [f7], by simp [f8], by simp [f9], by simp [f10], by simp [f89], by simp [f90], by simp [f113], by simp [f114], by simp [f115], by simp [f124], by simp [-splice, f0, f1, f5, f6, f7, f8, f9, f10, f89, f90, f113, f114, f115, f124]⟩
                  clear f0 f1 f5 f6 f7 f8 f9 f10 f89 f90 f113 f114 f115 f124
                  rintro t H n ⟨f0, f1, f5, f6, f7, f8, f9, f10, f89, f90, f113, f114, f115, f124, f127⟩
                  refine Stk.jo 4 (fun t H n => t 0 = .ssl (encs c32 a0) a0.length false ∧ t 1 = .sc (.string a1) ∧ t 5 = .sc (.int .i64 x4) ∧ t 6 = .sc (.int .i64 x5.1) ∧ t 7 = .sc (.int .i64 x5.2.1) ∧ t 8 = .sc (.bool x5.2.2) ∧ t 9 = .sc (.int .i64 v17) ∧ t 10 = .sc (.int .i64 v24) ∧ t 89 = .sc (.int .i64 (a0.length : Int)) ∧ t 90 = .sc (.int .i64 v17) ∧ t 113 = .ssl (encs c35 x23.Cons) x23.Cons.length false ∧ t 114 = .sc (.int .i64 (x23.Cons.length : Int)) ∧ t 115 = .sc (.int .i64 v24) ∧ t 124 = .sc (.bool true) ∧ t 131 = .sc (.bool ((!x5.2.2) || (decide (v17 < x5.1))))) (fun J16 hJ16 => ?_) ?_
                  · rcases Bool.eq_false_or_eq_true (!x5.2.2) with hb16 | hb16
                    · rw [hb16] at f127
                      refine Stk.run 4 (fun t H n => t 0 = .ssl (encs c32 a0) a0.length false ∧ t 1 = .sc (.string a1) ∧ t 5 = .sc (.int .i64 x4) ∧ t 6 = .sc (.int .i64 x5.1) ∧ t 7 = .sc (.int .i64 x5.2.1) ∧ t 8 = .sc (.bool x5.2.2) ∧ t 9 = .sc (.int .i64 v17) ∧ t 10 = .sc (.int .i64 v24) ∧ t 89 = .sc (.int .i64 (a0.length : Int)) ∧ t 90 = .sc (.int .i64 v17) ∧ t 113 = .ssl (encs c35 x23.Cons) x23.Cons.length false ∧ t 114 = .sc (.int .i64 (x23.Cons.length : Int)) ∧ t 115 = .sc (.int .i64 v24) ∧ t 124 = .sc (.bool true) ∧ t 131 = .sc (.bool true)) (fun J hJ => ?_) ?_
                      · simp [-splice, f0, f1, f5, f6, f7, f8, f9, f10, f89, f90, f113, f114, f115, f124, f127]
                        exact hJ _ _ _ ⟨by simp [f0], by simp [f1], by simp [f5], by simp [f6], by simp [f7], by simp [f8], by simp [f9], by simp [f10], by simp [f89], by simp [f90], by simp [f113], by simp [f114], by simp [f115], by simp [f124], by simp [-splice, f0, f1, f5, f6, f7, f8, f9, f10, f89, f90, f113, f114, f115, f124, f127]⟩
                      clear f0 f1 f5 f6 f7 f8 f9 f10 f89 f90 f113 f114 f115 f124 f127
                      rintro t H n ⟨f0, f1, f5, f6, f7, f8, f9, f10, f89, f90, f113, f114, f115, f124, f131⟩
                      refine Stk.on ?_
                      exact Stk.ln 0 (by decide) (hJ16 _ _ _ ⟨f0, f1, f5, f6, f7, f8, f9, f10, f89, f90, f113, f114, f115, f124, f131.trans (congrArg (fun q => AV.sc (.bool q)) (by rw [hb16]; rfl))⟩)
                    · rw [hb16] at f127
                      refine Stk.run 4 (fun t H n => t 0 = .ssl (encs c32 a0) a0.length false ∧ t 1 = .sc (.string a1) ∧ t 5 = .sc (.int .i64 x4) ∧ t 6 = .sc (.int .i64 x5.1) ∧ t 7 = .sc (.int .i64 x5.2.1) ∧ t 8 = .sc (.bool x5.2.2) ∧ t 9 = .sc (.int .i64 v17) ∧ t 10 = .sc (.int .i64 v24) ∧ t 89 = .sc (.int .i64 (a0.length : Int)) ∧ t 90 = .sc (.int .i64 v17) ∧ t 113 = .ssl (encs c35 x23.Cons) x23.Cons.length false ∧ t 114 = .sc (.int .i64 (x23.Cons.length : Int)) ∧ t 115 = .sc (.int .i64 v24) ∧ t 124 = .sc (.bool true) ∧ t 131 = .sc (.bool (decide (v17 < x5.1)))) (fun J hJ => ?_) ?_
                      · simp [-splice, f0, f1, f5, f6, f7, f8, f9, f10, f89, f90, f113, f114, f115, f124, f127]
                        exact hJ _ _ _ ⟨by simp [f0], by simp [f1], by simp [f5], by simp [f6], by simp [f7], by simp [f8], by simp [f9], by simp [f10], by simp [f89], by simp [f90], by simp [f113], by simp [f114], by simp [f115], by simp [f124], by simp [-splice, f0, f1, f5, f6, f7, f8, f9, f10, f89, f90, f113, f114, f115, f124, f127]⟩
                      clear f0 f1 f5 f6 f7 f8 f9 f10 f89 f90 f113 f114 f115 f124 f127
                      rintro t H n ⟨f0, f1, f5, f6, f7, f8, f9, f10, f89, f90, f113, f114, f115, f124, f131⟩
                      refine Stk.on ?_
                      exact Stk.ln 0 (by decide) (hJ16 _ _ _ ⟨f0, f1, f5, f6, f7, f8, f9, f10, f89, f90, f113, f114, f115, f124, f131.trans (congrArg (fun q => AV.sc (.bool q)) (by rw [hb16]; rfl))⟩)
                  clear f0 f1 f5 f6 f7 f8 f9 f10 f89 f90 f113 f114 f115 f124 f127
                  rintro t H n ⟨f0, f1, f5, f6, f7, f8, f9, f10, f89, f90, f113, f114, f115, f124, f131⟩
                  refine Stk.run 1 (fun t H n => t 0 = .ssl (encs c32 a0) a0.length false ∧ t 1 = .sc (.string a1) ∧ t 5 = .sc (.int .i64 x4) ∧ t 6 = .sc (.int .i64 x5.1) ∧ t 7 = .sc (.int .i64 x5.2.1) ∧ t 8 = .sc (.bool x5.2.2) ∧ t 9 = .sc (.int .i64 v17) ∧ t 10 = .sc (.int .i64 v24) ∧ t 89 = .sc (.int .i64 (a0.length : Int)) ∧ t 90 = .sc (.int .i64 v17) ∧ t 113 = .ssl (encs c35 x23.Cons) x23.Cons.length false ∧ t 114 = .sc (.int .i64 (x23.Cons.length : Int)) ∧ t 115 = .sc (.int .i64 v24) ∧ t 124 = .sc (.bool true) ∧ t 132 = .sc (.bool ((!x5.2.2) || (decide (v17 < x5.1))))) (fun J hJ => ?_) ?_
                  · simp [-splice, f0, f1, f5, f6, f7, f8, f9, f10, f89, f90, f113, f114, f115, f124, f131]
                    exact hJ _ _ _ ⟨by simp [f0], by simp [f1], by simp [f5], by simp [f6], by simp [f7], by simp [f8], by simp [f9], by simp [f10], by simp [f89], by simp [f90], by simp [f113], by simp [f114], by simp [f115], by simp [f124], by simp [-splice, f0, f1, f5, f6, f7, f8, f9, f10, f89, f90, f113, f114, f115, f124, f131]⟩
                  clear f0 f1 f5 f6 f7 f8 f9 f10 f89 f90 f113 f114 f115 f124 f131
                  rintro t H n ⟨f0, f1, f5, f6, f7, f8, f9, f10, f89, f90, f113, f114, f115, f124, f132⟩
                  refine Stk.jo 9 (fun t H n => t 0 = .ssl (encs c32 a0) a0.length false ∧ t 1 = .sc (.string a1) ∧ t 5 = .sc (.int .i64 x4) ∧ t 6 = .sc (.int .i64 x5.1) ∧ t 7 = .sc (.int .i64 x5.2.1) ∧ t 8 = .sc (.bool x5.2.2) ∧ t 9 = .sc (.int .i64 v17) ∧ t 89 = .sc (.int .i64 (a0.length : Int)) ∧ t 90 = .sc (.int .i64 v17) ∧ t 113 = .ssl (encs c35 x23.Cons) x23.Cons.length false ∧ t 114 = .sc (.int .i64 (x23.Cons.length : Int)) ∧ t 115 = .sc (.int .i64 v24) ∧ t 124 = .sc (.bool true) ∧ t 141 = .sc (.bool (((!x5.2.2) || (decide (v17 < x5.1))) || ((v17 == x5.1) && (decide (v24 < x5.2.1)))))) (fun J17 hJ17 => ?_) ?_
                  · rcases Bool.eq_false_or_eq_true ((!x5.2.2) || (decide (v17 < x5.1))) with hb17 | hb17
                    · rw [hb17] at f132
                      refine Stk.run 9 (fun t H n => t 0 = .ssl (encs c32 a0) a0.length false ∧ t 1 = .sc (.string a1) ∧ t 5 = .sc (.int .i64 x4) ∧ t 6 = .sc (.int .i64 x5.1) ∧ t 7 = .sc (.int .i64 x5.2.1) ∧ t 8 = .sc (.bool x5.2.2) ∧ t 9 = .sc (.int .i64 v17) ∧ t 89 = .sc (.int .i64 (a0.length : Int)) ∧ t 90 = .sc (.int .i64 v17) ∧ t 113 = .ssl (encs c35 x23.Cons) x23.Cons.length false ∧ t 114 = .sc (.int .i64 (x23.Cons.length : Int)) ∧ t 115 = .sc (.int .i64 v24) ∧ t 124 = .sc (.bool true) ∧ t 141 = .sc (.bool true)) (fun J hJ => ?_) ?_
                      · simp [-splice, f0, f1, f5, f6, f7, f8, f9, f10, f89, f90, f113, f114, f115, f124, f132]
                        exact hJ _ _ _ ⟨by simp [f0], by simp [f1], by simp [f5], by simp [f6], by simp [f7], by simp [f8], by simp [f9], by simp [f89], by simp [f90], by simp [f113], by simp [f114], by simp [f115], by simp [f124], by simp [-splice, f0, f1, f5, f6, f7, f8, f9, f10, f89, f90, f113, f114, f115, f124, f132]⟩
                      clear f0 f1 f5 f6 f7 f8 f9 f10 f89 f90 f113 f114 f115 f124 f132
                      rintro t H n ⟨f0, f1, f5, f6, f7, f8, f9, f89, f90, f113, f114, f115, f124, f141⟩
                      refine Stk.on ?_
                      exact Stk.ln 0 (by decide) (hJ17 _ _ _ ⟨f0, f1, f5, f6, f7, f8, f9, f89, f90, f113, f114, f115, f124, f141.trans (congrArg (fun q => AV.sc (.bool q)) (by rw [hb17]; rfl))⟩)
                    · rw [hb17] at f132
                      refine Stk.run 4 (fun t H n => t 0 = .ssl (encs c32 a0) a0.length false ∧ t 1 = .sc (.string a1) ∧ t 5 = .sc (.int .i64 x4) ∧ t 6 = .sc (.int .i64 x5.1) ∧ t 7 = .sc (.int .i64 x5.2.1) ∧ t 8 = .sc (.bool x5.2.2) ∧ t 9 = .sc (.int .i64 v17) ∧ t 10 = .sc (.int .i64 v24) ∧ t 89 = .sc (.int .i64 (a0.length : Int)) ∧ t 90 = .sc (.int .i64 v17) ∧ t 113 = .ssl (encs c35 x23.Cons) x23.Cons.length false ∧ t 114 = .sc (.int .i64 (x23.Cons.length : Int)) ∧ t 115 = .sc (.int .i64 v24) ∧ t 124 = .sc (.bool true) ∧ t 132 = .sc (.bool false) ∧ t 136 = .sc (.bool (v17 == x5.1))) (fun J hJ => ?_) ?_
                      · simp [-splice, f0, f1, f5, f6, f7, f8, f9, f10, f89, f90, f113, f114, f115, f124, f132]
                        exact hJ _ _ _ ⟨by simp [f0], by simp [f1], by simp [f5], by simp [f6], by simp [f7], by simp [f8], by simp [f9], by simp [f10], by simp [f89], by simp [f90], by simp [f113], by simp [f114], by simp [f115], by simp [f124], by simp [f132], by simp [-splice, f0, f1, f5, f6, f7, f8, f9, f10, f89, f90, f113, f114, f115, f124, f132]⟩
                      clear f0 f1 f5 f6 f7 f8 f9 f10 f89 f90 f113 f114 f115 f124 f132
                      rintro t H n ⟨f0, f1, f5, f6, f7, f8, f9, f10, f89, f90, f113, f114, f115, f124, f132, f136⟩
                      refine Stk.jo 4 (fun t H n => t 0 = .ssl (encs c32 a0) a0.length false ∧ t 1 = .sc (.string a1) ∧ t 5 = .sc (.int .i64 x4) ∧ t 6 = .sc (.int .i64 x5.1) ∧ t 7 = .sc (.int .i64 x5.2.1) ∧ t 8 = .sc (.bool x5.2.2) ∧ t 9 = .sc (.int .i64 v17) ∧ t 89 = .sc (.int .i64 (a0.length : Int)) ∧ t 90 = .sc (.int .i64 v17) ∧ t 113 = .ssl (encs c35 x23.Cons) x23.Cons.length false ∧ t 114 = .sc (.int .i64 (x23.Cons.length : Int)) ∧ t 115 = .sc (.int .i64 v24) ∧ t 124 = .sc (.bool true) ∧ t 132 = .sc (.bool false) ∧ t 140 = .sc (.bool ((v17 == x5.1) && (decide (v24 < x5.2.1))))) (fun J18 hJ18 => ?_) ?_
                      · rcases Bool.eq_false_or_eq_true (v17 == x5.1) with hb18 | hb18
                        · rw [hb18] at f136
                          refine Stk.run 4 (fun t H n => t 0 = .ssl (encs c32 a0) a0.length false ∧ t 1 = .sc (.string a1) ∧ t 5 = .sc (.int .i64 x4) ∧ t 6 = .sc (.int .i64 x5.1) ∧ t 7 = .sc (.int .i64 x5.2.1) ∧ t 8 = .sc (.bool x5.2.2) ∧ t 9 = .sc (.int .i64 v17) ∧ t 89 = .sc (.int .i64 (a0.length : Int)) ∧ t 90 = .sc (.int .i64 v17) ∧ t 113 = .ssl (encs c35 x23.Cons) x23.Cons.length false ∧ t 114 = .sc (.int .i64 (x23.Cons.length : Int)) ∧ t 115 = .sc (.int .i64 v24) ∧ t 124 = .sc (.bool true) ∧ t 132 = .sc (.bool false) ∧ t 140 = .sc (.bool (decide (v24 < x5.2.1)))) (fun J hJ => ?_) ?_
                          · simp [-splice, f0, f1, f5, f6, f7, f8, f9, f10, f89, f90, f113, f114, f115, f124, f132, f136]
                            exact hJ _ _ _ ⟨by simp [f0], by simp [f1], by simp [f5], by simp [f6], by simp [f7], by simp [f8], by simp [f9], by simp [f89], by simp [f90], by simp [f113], by simp [f114], by simp [f115], by simp [f124], by simp [f132], by simp [-splice, f0, f1, f5, f6, f7, f8, f9, f10, f89, f90, f113, f114, f115, f124, f132, f136]⟩
                          clear f0 f1 f5 f6 f7 f8 f9 f10 f89 f90 f113 f114 f115 f124 f132 f136
                          rintro t H n ⟨f0, f1, f5, f6, f7, f8, f9, f89, f90, f113, f114, f115, f124, f132, f140⟩
                          refine Stk.on ?_
                          exact Stk.ln 0 (by decide) (hJ18 _ _ _ ⟨f0, f1, f5, f6, f7, f8, f9, f89, f90, f113, f114, f115, f124, f132, f140.trans (congrArg (fun q => AV.sc (.bool q)) (by rw [hb18]; rfl))⟩)
                        · rw [hb18] at f136
                          refine Stk.run 4 (fun t H n => t 0 = .ssl (encs c32 a0) a0.length false ∧ t 1 = .sc (.string a1) ∧ t 5 = .sc (.int .i64 x4) ∧ t 6 = .sc (.int .i64 x5.1) ∧ t 7 = .sc (.int .i64 x5.2.1) ∧ t 8 = .sc (.bool x5.2.2) ∧ t 9 = .sc (.int .i64 v17) ∧ t 89 = .sc (.int .i64 (a0.length : Int)) ∧ t 90 = .sc (.int .i64 v17) ∧ t 113 = .ssl (encs c35 x23.Cons) x23.Cons.length false ∧ t 114 = .sc (.int .i64 (x23.Cons.length : Int)) ∧ t 115 = .sc (.int .i64 v24) ∧ t 124 = .sc (.bool true) ∧ t 132 = .sc (.bool false) ∧ t 140 = .sc (.bool false)) (fun J hJ => ?_) ?_
                          · simp [-splice, f0, f1, f5, f6, f7, f8, f9, f10, f89, f90, f113, f114, f115, f124, f132, f136]
                            exact hJ _ _ _ ⟨by simp [f0], by simp [f1], by simp [f5], by simp [f6], by simp [f7], by simp [f8], by simp [f9], by simp [f89], by simp [f90], by simp [f113], by simp [f114], by simp [f115], by simp [f124], by simp [f132], by simp [-splice, f0, f1, f5, f6, f7, f8, f9, f10, f89, f90, f113, f114, f115, f124, f132, f136]⟩
                          clear f0 f1 f5 f6 f7 f8 f9 f10 f89 f90 f113 f114 f115 f124 f132 f136
                          rintro t H n ⟨f0, f1, f5, f6, f7, f8, f9, f89, f90, f113, f114, f115, f124, f132, f140⟩
                          refine Stk.on ?_
                          exact Stk.ln 0 (by decide) (hJ18 _ _ _ ⟨f0, f1, f5, f6, f7, f8, f9, f89, f90, f113, f114, f115, f124, f132, f140.trans (congrArg (fun q => AV.sc (.bool q)) (by rw [hb18]; rfl))⟩)
                      clear f0 f1 f5 f6 f7 f8 f9 f10 f89 f90 f113 f114 f115 f124 f132 f136
                      rintro t H n ⟨f0, f1, f5, f6, f7, f8, f9, f89, f90, f113, f114, f115, f124, f132, f140⟩
                      refine Stk.run 1 (fun t H n => t 0 = .ssl (encs c32 a0) a0.length false ∧ t 1 = .sc (.string a1) ∧ t 5 = .sc (.int .i64 x4) ∧ t 6 = .sc (.int .i64 x5.1) ∧ t 7 = .sc (.int .i64 x5.2.1) ∧ t 8 = .sc (.bool x5.2.2) ∧ t 9 = .sc (.int .i64 v17) ∧ t 89 = .sc (.int .i64 (a0.length : Int)) ∧ t 90 = .sc (.int .i64 v17) ∧ t 113 = .ssl (encs c35 x23.Cons) x23.Cons.length false ∧ t 114 = .sc (.int .i64 (x23.Cons.length : Int)) ∧ t 115 = .sc (.int .i64 v24) ∧ t 124 = .sc (.bool true) ∧ t 141 = .sc (.bool ((v17 == x5.1) && (decide (v24 < x5.2.1))))) (fun J hJ => ?_) ?_
                      · simp [-splice, f0, f1, f5, f6, f7, f8, f9, f89, f90, f113, f114, f115, f124, f132, f140]
                        exact hJ _ _ _ ⟨by simp [f0], by simp [f1], by simp [f5], by simp [f6], by simp [f7], by simp [f8], by simp [f9], by simp [f89], by simp [f90], by simp [f113], by simp [f114], by simp [f115], by simp [f124], by simp [-splice, f0, f1, f5, f6, f7, f8, f9, f89, f90, f113, f114, f115, f124, f132, f140]⟩
                      clear f0 f1 f5 f6 f7 f8 f9 f89 f90 f113 f114 f115 f124 f132 f140
                      rintro t H n ⟨f0, f1, f5, f6, f7, f8, f9, f89, f90, f113, f114, f115, f124, f141⟩
                      refine Stk.on ?_
                      exact Stk.ln 0 (by decide) (hJ17 _ _ _ ⟨f0, f1, f5, f6, f7, f8, f9, f89, f90, f113, f114, f115, f124, f141.trans (congrArg (fun q => AV.sc (.bool q)) (by rw [hb17]; rfl))⟩)
                  clear f0 f1 f5 f6 f7 f8 f9 f10 f89 f90 f113 f114 f115 f124 f132
                  rintro t H n ⟨f0, f1, f5, f6, f7, f8, f9, f89, f90, f113, f114, f115, f124, f141⟩
                  refine Stk.run 1 (fun t H n => t 0 = .ssl (encs c32 a0) a0.length false ∧ t 1 = .sc (.string a1) ∧ t 5 = .sc (.int .i64 x4) ∧ t 6 = .sc (.int .i64 x5.1) ∧ t 7 = .sc (.int .i64 x5.2.1) ∧ t 8 = .sc (.bool x5.2.2) ∧ t 9 = .sc (.int .i64 v17) ∧ t 89 = .sc (.int .i64 (a0.length : Int)) ∧ t 90 = .sc (.int .i64 v17) ∧ t 113 = .ssl (encs c35 x23.Cons) x23.Cons.length false ∧ t 114 = .sc (.int .i64 (x23.Cons.length : Int)) ∧ t 115 = .sc (.int .i64 v24) ∧ t 142 = .sc (.bool (((!x5.2.2) || (decide (v17 < x5.1))) || ((v17 == x5.1) && (decide (v24 < x5.2.1)))))) (fun J hJ => ?_) ?_
                  · simp [-splice, f0, f1, f5, f6, f7, f8, f9, f89, f90, f113, f114, f115, f124, f141]
                    exact hJ _ _ _ ⟨by simp [f0], by simp [f1], by simp [f5], by simp [f6], by simp [f7], by simp [f8], by simp [f9], by simp [f89], by simp [f90], by simp [f113], by simp [f114], by simp [f115], by simp [-splice, f0, f1, f5, f6, f7, f8, f9, f89, f90, f113, f114, f115, f124, f141]⟩
                  clear f0 f1 f5 f6 f7 f8 f9 f89 f90 f113 f114 f115 f124 f141
                  rintro t H n ⟨f0, f1, f5, f6, f7, f8, f9, f89, f90, f113, f114, f115, f142⟩
                  refine Stk.on ?_
                  exact Stk.ln 0 (by decide) (hJ15 _ _ _ ⟨f0, f1, f5, f6, f7, f8, f9, f89, f90, f113, f114, f115, f142.trans (congrArg (fun q => AV.sc (.bool q)) (by rw [hb15]; rfl))⟩)
                · rw [hb15] at f124
                  refine Stk.run 18 (fun t H n => t 0 = .ssl (encs c32 a0) a0.length false ∧ t 1 = .sc (.string a1) ∧ t 5 = .sc (.int .i64 x4) ∧ t 6 = .sc (.int .i64 x5.1) ∧ t 7 = .sc (.int .i64 x5.2.1) ∧ t 8 = .sc (.bool x5.2.2) ∧ t 9 = .sc (.int .i64 v17) ∧ t 89 = .sc (.int .i64 (a0.length : Int)) ∧ t 90 = .sc (.int .i64 v17) ∧ t 113 = .ssl (encs c35 x23.Cons) x23.Cons.length false ∧ t 114 = .sc (.int .i64 (x23.Cons.length : Int)) ∧ t 115 = .sc (.int .i64 v24) ∧ t 142 = .sc (.bool false)) (fun J hJ => ?_) ?_
                  · simp [-splice, f0, f1, f5, f6, f7, f8, f9, f10, f89, f90, f113, f114, f115, f124]
                    exact hJ _ _ _ ⟨by simp [f0], by simp [f1], by simp [f5], by simp [f6], by simp [f7], by simp [f8], by simp [f9], by simp [f89], by simp [f90], by simp [f113], by simp [f114], by simp [f115], by simp [-splice, f0, f1, f5, f6, f7, f8, f9, f10, f89, f90, f113, f114, f115, f124]⟩
                  clear f0 f1 f5 f6 f7 f8 f9 f10 f89 f90 f113 f114 f115 f124
                  rintro t H n ⟨f0, f1, f5, f6, f7, f8, f9, f89, f90, f113, f114, f115, f142⟩
                  refine Stk.on ?_
                  exact Stk.ln 0 (by decide) (hJ15 _ _ _ ⟨f0, f1, f5, f6, f7, f8, f9, f89, f90, f113, f114, f115, f142.trans (congrArg (fun q => AV.sc (.bool q)) (by rw [hb15]; rfl))⟩)
              clear f0 f1 f5 f6 f7 f8 f9 f10 f89 f90 f113 f114 f115 f124
              rintro t H n ⟨f0, f1, f5, f6, f7, f8, f9, f89, f90, f113, f114, f115, f142⟩
              refine Stk.on ?_
              refine Stk.cond ((x27.Name.toList == a1.toList) && (((!x5.2.2) || (decide (v17 < x5.1))) || ((v17 == x5.1) && (decide (v24 < x5.2.1))))) (by exact f142) (fun hb29 => ?_) (fun hb29 => ?_)
              · have h := cT hb29 h
                refine Stk.sq ?_
                refine Stk.rg ?_
                refine Stk.run 1 (fun t H n => t 4 = .sc (.bool false)) (fun J hJ => ?_) ?_
                · simp [-splice, f0, f1, f5, f6, f7, f8, f9, f89, f90, f113, f114, f115, f142]
                  exact hJ _ _ _ (by simp [-splice, f0, f1, f5, f6, f7, f8, f9, f89, f90, f113, f114, f115, f142])
                clear f0 f1 f5 f6 f7 f8 f9 f89 f90 f113 f114 f115 f142
                rintro t H n f4
                refine Stk.on ?_
                refine Stk.rt ?_
                have hq := Option.some.inj h; subst hq
                exact (hr _ _ _ (.sc (.bool false)) ([]) (by simp [f4]) (.inr (.inr (.free (rfl))))).1
              · have h := cF hb29 h
                refine Stk.sk ?_
                refine Stk.bn ?_
                refine Stk.rg ?_
                refine Stk.run 2 (fun t H n => t 0 = .ssl (encs c32 a0) a0.length false ∧ t 1 = .sc (.string a1) ∧ t 5 = .sc (.int .i64 x4) ∧ t 6 = .sc (.int .i64 x5.1) ∧ t 7 = .sc (.int .i64 x5.2.1) ∧ t 8 = .sc (.bool x5.2.2) ∧ t 9 = .sc (.int .i64 v17) ∧ t 89 = .sc (.int .i64 (a0.length : Int)) ∧ t 90 = .sc (.int .i64 v17) ∧ t 113 = .ssl (encs c35 x23.Cons) x23.Cons.length false ∧ t 114 = .sc (.int .i64 (x23.Cons.length : Int)) ∧ t 115 = .sc (.int .i64 (IntKind.i64.wrap (v24 + 1)))) (fun J hJ => ?_) ?_
                · simp [-splice, f0, f1, f5, f6, f7, f8, f9, f89, f90, f113, f114, f115, f142]
                  exact hJ _ _ _ ⟨by simp [f0], by simp [f1], by simp [f5], by simp [f6], by simp [f7], by simp [f8], by simp [f9], by simp [f89], by simp [f90], by simp [f113], by simp [f114], by simp [-splice, f0, f1, f5, f6, f7, f8, f9, f89, f90, f113, f114, f115, f142]⟩
                clear f0 f1 f5 f6 f7 f8 f9 f89 f90 f113 f114 f115 f142
                rintro t H n ⟨f0, f1, f5, f6, f7, f8, f9, f89, f90, f113, f114, f115⟩
                refine Stk.on ?_
                exact Stk.ln μ (Nat.lt_succ_self _) (hJ14 _ _ _ _ ⟨(IntKind.i64.wrap (v24 + 1)), h, f0, f1, f5, f6, f7, f8, f9, f89, f90, f113, f114, f115⟩)
            · have h := cF hb26 h
              refine Stk.ex rfl ?_
              exact Stk.ln 0 (by decide) (hJ13 _ _ _ ⟨h, f0, f1, f5, f6, f7, f8, f89, f90⟩)
          clear h f0 f1 f5 f6 f7 f8 f9 f89 f90 f113 f114 f115
          rintro t H n ⟨h, f0, f1, f5, f6, f7, f8, f89, f90⟩
          subst hK13
          refine Stk.bn ?_
          refine Stk.rg ?_
          refine Stk.run 2 (fun t H n => t 0 = .ssl (encs c32 a0) a0.length false ∧ t 1 = .sc (.string a1) ∧ t 5 = .sc (.int .i64 x4) ∧ t 6 = .sc (.int .i64 x5.1) ∧ t 7 = .sc (.int .i64 x5.2.1) ∧ t 8 = .sc (.bool x5.2.2) ∧ t 89 = .sc (.int .i64 (a0.length : Int)) ∧ t 90 = .sc (.int .i64 (IntKind.i64.wrap (v17 + 1)))) (fun J hJ => ?_) ?_
          · simp [-splice, f0, f1, f5, f6, f7, f8, f89, f90]
            exact hJ _ _ _ ⟨by simp [f0], by simp [f1], by simp [f5], by simp [f6], by simp [f7], by simp [f8], by simp [f89], by simp [-splice, f0, f1, f5, f6, f7, f8, f89, f90]⟩
          clear f0 f1 f5 f6 f7 f8 f89 f90
          rintro t H n ⟨f0, f1, f5, f6, f7, f8, f89, f90⟩
          refine Stk.on ?_
          exact Stk.ln μ (Nat.lt_succ_self _) (hJ10 _ _ _ _ ⟨(IntKind.i64.wrap (v17 + 1)), h, f0, f1, f5, f6, f7, f8, f89, f90⟩)
      · have h := cF hb19 h
        refine Stk.ex rfl ?_
        refine Stk.sq ?_
        refine Stk.rg ?_
        obtain ⟨x30, hx30, h⟩ := bnd h
        refine Stk.cv (g := 7) (args := []) (args' := []) (v := .sc (.bool x30)) [] (ok_L07_awake F  _ hx30) (by simp [f0, f1, f5, f6, f7, f8, f89, f90, f91]) rfl rfl (by simp [f0, f1, f5, f6, f7, f8, f89, f90, f91]) (.nil) (.inl ⟨rfl, rfl⟩) (fun t' ht' => ?_)
        refine Stk.gen (fun t H n => t 145 = .sc (.bool x30)) (by simp [ht']) ?_
        clear f0 f1 f5 f6 f7 f8 f89 f90 f91 ht' t'
        rintro t H n f145
        refine Stk.run 1 (fun t H n => t 4 = .sc (.bool x30)) (fun J hJ => ?_) ?_
        · simp [-splice, f145]
          exact hJ _ _ _ (by simp [-splice, f145])
        clear f145
        rintro t H n f4
        refine Stk.on ?_
        refine Stk.rt ?_
        have hq := Option.some.inj h; subst hq
        exact (hr _ _ _ (.sc (.bool x30)) ([]) (by simp [f4]) (.inr (.inr (.free (rfl))))).1
end Go.Proofs.Ytappiofmkoelnaa.M
