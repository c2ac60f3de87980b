/-
  The functions come to them.
-/
import Derived.Test.YtfbkgjmpadknfaaGM
import Derived.Test.YtfbkgjmpadknfaaGW10
import Derived.Test.YtfbkgjmpadknfaaGW11
namespace Go.Proofs.Ytfbkgjmpadknfaa.M
open Go.Proofs.YtfbkgjmpadknfaaW.Ah Go.Proofs.Ytfbkgjmpadknfaa
set_option linter.unusedVariables false
set_option linter.unusedSimpArgs false
set_option maxRecDepth 8000
attribute [local simp] T.t2 T.t3 T.t5 T.t37 T.t39 T.t95 T.t97 List.range List.range.loop
attribute [-simp] appendAV fillAV
theorem ok_R13_Put (F : Nat) (a0 : (List api_Term)) (a1 : (List (List api_Term))) (r : ((List api_Term) × Int)) (h : R13_Put F a0 a1 = some r) : RunF Try.prog T.T 30 [.ssl (encs c97 a0) a0.length false, .ssl (encs c37 a1) a1.length false] (.tup [.ssl (encs c97 r.1) r.1.length false, .sc (.int .i64 r.2)]) := by
  rw [R13_Put] at h
  refine RunF.z Try.func30 rfl rfl rfl rfl rfl (fun C hr => ?_)
  refine Stk.gen (fun t H n => t 0 = .ssl (encs c97 a0) a0.length false ∧ t 1 = .ssl (encs c37 a1) a1.length false) ⟨by simp, by simp⟩ ?_
  rintro t H n ⟨f0, f1⟩
  refine Stk.sq ?_
  refine Stk.rg ?_
  refine Stk.run 1 (fun t H n => t 0 = .ssl (encs c97 a0) a0.length false ∧ t 1 = .ssl (encs c37 a1) a1.length false) (fun J hJ => ?_) ?_
  · simp [-splice, f0, f1]
    exact hJ _ _ _ ⟨by simp [f0], by simp [f1]⟩
  clear f0 f1
  rintro t H n ⟨f0, f1⟩
  refine Stk.run 1 (fun t H n => t 0 = .ssl (encs c97 a0) a0.length false ∧ t 1 = .ssl (encs c37 a1) a1.length false) (fun J hJ => ?_) ?_
  · simp [-splice, f0, f1]
    exact hJ _ _ _ ⟨by simp [f0], by simp [f1]⟩
  clear f0 f1
  rintro t H n ⟨f0, f1⟩
  refine Stk.on ?_
  refine Stk.sq ?_
  refine Stk.rg ?_
  refine Stk.run 1 (fun t H n => t 0 = .ssl (encs c97 a0) a0.length false ∧ t 1 = .ssl (encs c37 a1) a1.length false ∧ t 6 = .sc (.slice none 0 0)) (fun J hJ => ?_) ?_
  · simp [-splice, f0, f1]
    exact hJ _ _ _ ⟨by simp [f0], by simp [f1], by simp [-splice, f0, f1]⟩
  clear f0 f1
  rintro t H n ⟨f0, f1, f6⟩
  refine Stk.wk trivial 6 (.ssl (encs c97 ([] : (List api_Term))) ([] : (List api_Term)).length false) (by rw [f6]; exact .inr (.inr .nilS)) (fun t' ht' => ?_)
  refine Stk.gen (fun t H n => t 0 = .ssl (encs c97 a0) a0.length false ∧ t 1 = .ssl (encs c37 a1) a1.length false ∧ t 6 = .ssl (encs c97 ([] : (List api_Term))) ([] : (List api_Term)).length false) ⟨by simp [ht', f0], by simp [ht', f1], by simp [ht', f6]⟩ ?_
  clear f0 f1 f6 ht' t'
  rintro t H n ⟨f0, f1, f6⟩
  refine Stk.on ?_
  refine Stk.sq ?_
  refine Stk.sq ?_
  refine Stk.rg ?_
  refine Stk.run 1 (fun t H n => t 0 = .ssl (encs c97 a0) a0.length false ∧ t 1 = .ssl (encs c37 a1) a1.length false ∧ t 6 = .ssl (encs c97 ([] : (List api_Term))) ([] : (List api_Term)).length false ∧ t 7 = .sc (.int .i64 0)) (fun J hJ => ?_) ?_
  · simp [-splice, f0, f1, f6]
    exact hJ _ _ _ ⟨by simp [f0], by simp [f1], by simp [f6], by simp [-splice, f0, f1, f6]⟩
  clear f0 f1 f6
  rintro t H n ⟨f0, f1, f6, f7⟩
  refine Stk.on ?_
  refine Stk.bk ?_
  refine Stk.lo (fun μ t H n => ∃ v1 : (List api_Term), ∃ v2 : Int, R13_Put_L0 F a0 a1 μ v1 v2 = some r ∧ t 0 = .ssl (encs c97 a0) a0.length false ∧ t 1 = .ssl (encs c37 a1) a1.length false ∧ t 6 = .ssl (encs c97 v1) v1.length false ∧ t 7 = .sc (.int .i64 v2)) F ⟨([] : (List api_Term)), 0, h, f0, f1, f6, f7⟩ ?_
  clear h f0 f1 f6 f7
  rintro J1 hJ1 μ t H n ⟨v1, v2, h, f0, f1, f6, f7⟩
  cases μ with
  | zero => exact absurd h (by simp [R13_Put_L0])
  | succ μ =>
  rw [R13_Put_L0] at h
  refine Stk.sq ?_
  refine Stk.sq ?_
  refine Stk.rg ?_
  refine Stk.run 4 (fun t H n => t 0 = .ssl (encs c97 a0) a0.length false ∧ t 1 = .ssl (encs c37 a1) a1.length false ∧ t 6 = .ssl (encs c97 v1) v1.length false ∧ t 7 = .sc (.int .i64 v2) ∧ t 17 = .sc (.bool (decide (v2 < (a0.length : Int))))) (fun J hJ => ?_) ?_
  · simp [-splice, f0, f1, f6, f7]
    exact hJ _ _ _ ⟨by simp [f0], by simp [f1], by simp [f6], by simp [f7], by simp [-splice, f0, f1, f6, f7]⟩
  clear f0 f1 f6 f7
  rintro t H n ⟨f0, f1, f6, f7, f17⟩
  refine Stk.on ?_
  refine Stk.cond (decide (v2 < (a0.length : Int))) (by exact f17) (fun hb5 => ?_) (fun hb5 => ?_)
  · have h := cT hb5 h
    refine Stk.sk ?_
    refine Stk.sq ?_
    refine Stk.bk ?_
    refine Stk.sq ?_
    refine Stk.rg ?_
    obtain ⟨x6, hx6, h⟩ := bnd h
    obtain ⟨i0x6, i1x6, i2x6, _⟩ := idx_ok hx6
    have ex6_12_2 : partOf T.T 2 (encs c97 a0) (v2.toNat * 13 + 12) = some (.sc (.int .i64 x6.Coef)) := by
        have e0 := part_elem0 (e := c97) (z := 13) (T := T.T) (ty := 2) T.t2 (by decide) (by decide) hx6 12 (by decide)
        (try simp only [Nat.mul_one, Nat.add_zero] at e0)
        exact e0.trans (ld_97_12_2 _)
    refine Stk.run 5 (fun t H n => t 0 = .ssl (encs c97 a0) a0.length false ∧ t 1 = .ssl (encs c37 a1) a1.length false ∧ t 6 = .ssl (encs c97 v1) v1.length false ∧ t 7 = .sc (.int .i64 v2) ∧ t 25 = .sc (.int .i64 x6.Coef)) (fun J hJ => ?_) ?_
    · simp [-splice, f0, f1, f6, f7, f17, i0x6, i1x6, pd2, ex6_12_2]
      exact hJ _ _ _ ⟨by simp [f0], by simp [f1], by simp [f6], by simp [f7], by simp [-splice, f0, f1, f6, f7, f17, i0x6, i1x6, pd2, ex6_12_2]⟩
    clear f0 f1 f6 f7 f17
    rintro t H n ⟨f0, f1, f6, f7, f25⟩
    obtain ⟨x7, hx7, h⟩ := bnd h
    refine Stk.cv (g := 32) (args := [.sc (.int .i64 x6.Coef)]) (args' := [.sc (.int .i64 x6.Coef)]) (v := .tup [.ssl (encs c97 x7.1) x7.1.length false, .sc (.int .i64 x7.2)]) [] (ok_R13_Num F _ _ hx7) (by simp [f0, f1, f6, f7, f25]) rfl rfl (by simp [f0, f1, f6, f7, f25]) (.cons (.free (rfl)) (.nil)) (.inl ⟨rfl, by simp [free, freeL, freeL_encs fr97]⟩) (fun t' ht' => ?_)
    refine Stk.gen (fun t H n => t 0 = .ssl (encs c97 a0) a0.length false ∧ t 1 = .ssl (encs c37 a1) a1.length false ∧ t 6 = .ssl (encs c97 v1) v1.length false ∧ t 7 = .sc (.int .i64 v2) ∧ t 26 = .tup [.ssl (encs c97 x7.1) x7.1.length false, .sc (.int .i64 x7.2)]) ⟨by simp [ht', f0], by simp [ht', f1], by simp [ht', f6], by simp [ht', f7], by simp [ht']⟩ ?_
    clear f0 f1 f6 f7 f25 ht' t'
    rintro t H n ⟨f0, f1, f6, f7, f26⟩
    refine Stk.run 5 (fun t H n => t 0 = .ssl (encs c97 a0) a0.length false ∧ t 1 = .ssl (encs c37 a1) a1.length false ∧ t 6 = .ssl (encs c97 v1) v1.length false ∧ t 7 = .sc (.int .i64 v2) ∧ t 8 = .ssl (encs c97 x7.1) x7.1.length false ∧ t 9 = .sc (.int .i64 x7.2)) (fun J hJ => ?_) ?_
    · simp [-splice, f0, f1, f6, f7, f26]
      exact hJ _ _ _ ⟨by simp [f0], by simp [f1], by simp [f6], by simp [f7], by simp [-splice, f0, f1, f6, f7, f26], by simp [-splice, f0, f1, f6, f7, f26]⟩
    clear f0 f1 f6 f7 f26
    rintro t H n ⟨f0, f1, f6, f7, f8, f9⟩
    refine Stk.on ?_
    refine Stk.sq ?_
    refine Stk.sq ?_
    refine Stk.rg ?_
    refine Stk.run 1 (fun t H n => t 0 = .ssl (encs c97 a0) a0.length false ∧ t 1 = .ssl (encs c37 a1) a1.length false ∧ t 6 = .ssl (encs c97 v1) v1.length false ∧ t 7 = .sc (.int .i64 v2) ∧ t 8 = .ssl (encs c97 x7.1) x7.1.length false ∧ t 9 = .sc (.int .i64 x7.2) ∧ t 10 = .sc (.int .i64 0)) (fun J hJ => ?_) ?_
    · simp [-splice, f0, f1, f6, f7, f8, f9]
      exact hJ _ _ _ ⟨by simp [f0], by simp [f1], by simp [f6], by simp [f7], by simp [f8], by simp [f9], by simp [-splice, f0, f1, f6, f7, f8, f9]⟩
    clear f0 f1 f6 f7 f8 f9
    rintro t H n ⟨f0, f1, f6, f7, f8, f9, f10⟩
    refine Stk.on ?_
    obtain ⟨K2, hK2, h⟩ := jnd h
    refine Stk.jn (fun t H n => ∃ v8 : (List api_Term), ∃ v9 : Int, K2 v8 v9 = some r ∧ t 0 = .ssl (encs c97 a0) a0.length false ∧ t 1 = .ssl (encs c37 a1) a1.length false ∧ t 6 = .ssl (encs c97 v1) v1.length false ∧ t 7 = .sc (.int .i64 v2) ∧ t 8 = .ssl (encs c97 v8) v8.length false ∧ t 9 = .sc (.int .i64 v9)) trivial (fun J2 hJ2 => ?_) ?_
    · skip
      refine Stk.bk ?_
      refine Stk.lo (fun μ t H n => ∃ v10 : (List api_Term), ∃ v11 : Int, ∃ v12 : Int, R13_Put_L1 F a0 a1 v2 K2 μ v10 v11 v12 = some r ∧ t 0 = .ssl (encs c97 a0) a0.length false ∧ t 1 = .ssl (encs c37 a1) a1.length false ∧ t 6 = .ssl (encs c97 v1) v1.length false ∧ t 7 = .sc (.int .i64 v2) ∧ t 8 = .ssl (encs c97 v10) v10.length false ∧ t 9 = .sc (.int .i64 v11) ∧ t 10 = .sc (.int .i64 v12)) F ⟨x7.1, x7.2, 0, h, f0, f1, f6, f7, f8, f9, f10⟩ ?_
      clear h f0 f1 f6 f7 f8 f9 f10
      rintro J3 hJ3 μ t H n ⟨v10, v11, v12, h, f0, f1, f6, f7, f8, f9, f10⟩
      cases μ with
      | zero => exact absurd h (by simp [R13_Put_L1])
      | succ μ =>
      rw [R13_Put_L1] at h
      refine Stk.sq ?_
      refine Stk.sq ?_
      refine Stk.rg ?_
      refine Stk.run 2 (fun t H n => t 0 = .ssl (encs c97 a0) a0.length false ∧ t 1 = .ssl (encs c37 a1) a1.length false ∧ t 6 = .ssl (encs c97 v1) v1.length false ∧ t 7 = .sc (.int .i64 v2) ∧ t 8 = .ssl (encs c97 v10) v10.length false ∧ t 9 = .sc (.int .i64 v11) ∧ t 10 = .sc (.int .i64 v12) ∧ t 30 = .sc (.bool (decide (v12 < 12)))) (fun J hJ => ?_) ?_
      · simp [-splice, f0, f1, f6, f7, f8, f9, f10]
        exact hJ _ _ _ ⟨by simp [f0], by simp [f1], by simp [f6], by simp [f7], by simp [f8], by simp [f9], by simp [f10], by simp [-splice, f0, f1, f6, f7, f8, f9, f10]⟩
      clear f0 f1 f6 f7 f8 f9 f10
      rintro t H n ⟨f0, f1, f6, f7, f8, f9, f10, f30⟩
      refine Stk.on ?_
      refine Stk.cond (decide (v12 < 12)) (by exact f30) (fun hb16 => ?_) (fun hb16 => ?_)
      · have h := cT hb16 h
        refine Stk.sk ?_
        refine Stk.sq ?_
        refine Stk.bk ?_
        refine Stk.sq ?_
        refine Stk.rg ?_
        refine Stk.run 1 (fun t H n => t 0 = .ssl (encs c97 a0) a0.length false ∧ t 1 = .ssl (encs c37 a1) a1.length false ∧ t 6 = .ssl (encs c97 v1) v1.length false ∧ t 7 = .sc (.int .i64 v2) ∧ t 8 = .ssl (encs c97 v10) v10.length false ∧ t 9 = .sc (.int .i64 v11) ∧ t 10 = .sc (.int .i64 v12) ∧ t 34 = .sc (.int .i64 v12)) (fun J hJ => ?_) ?_
        · simp [-splice, f0, f1, f6, f7, f8, f9, f10, f30]
          exact hJ _ _ _ ⟨by simp [f0], by simp [f1], by simp [f6], by simp [f7], by simp [f8], by simp [f9], by simp [f10], by simp [-splice, f0, f1, f6, f7, f8, f9, f10, f30]⟩
        clear f0 f1 f6 f7 f8 f9 f10 f30
        rintro t H n ⟨f0, f1, f6, f7, f8, f9, f10, f34⟩
        obtain ⟨x17, hx17, h⟩ := bnd h
        refine Stk.cv (g := 34) (args := [.sc (.int .i64 v12)]) (args' := [.sc (.int .i64 v12)]) (v := .tup [.ssl (encs c97 x17.1) x17.1.length false, .sc (.int .i64 x17.2)]) [] (ok_R13_Var F _ _ hx17) (by simp [f0, f1, f6, f7, f8, f9, f10, f34]) rfl rfl (by simp [f0, f1, f6, f7, f8, f9, f10, f34]) (.cons (.free (rfl)) (.nil)) (.inl ⟨rfl, by simp [free, freeL, freeL_encs fr97]⟩) (fun t' ht' => ?_)
        refine Stk.gen (fun t H n => t 0 = .ssl (encs c97 a0) a0.length false ∧ t 1 = .ssl (encs c37 a1) a1.length false ∧ t 6 = .ssl (encs c97 v1) v1.length false ∧ t 7 = .sc (.int .i64 v2) ∧ t 8 = .ssl (encs c97 v10) v10.length false ∧ t 9 = .sc (.int .i64 v11) ∧ t 10 = .sc (.int .i64 v12) ∧ t 35 = .tup [.ssl (encs c97 x17.1) x17.1.length false, .sc (.int .i64 x17.2)]) ⟨by simp [ht', f0], by simp [ht', f1], by simp [ht', f6], by simp [ht', f7], by simp [ht', f8], by simp [ht', f9], by simp [ht', f10], by simp [ht']⟩ ?_
        clear f0 f1 f6 f7 f8 f9 f10 f34 ht' t'
        rintro t H n ⟨f0, f1, f6, f7, f8, f9, f10, f35⟩
        refine Stk.run 5 (fun t H n => t 0 = .ssl (encs c97 a0) a0.length false ∧ t 1 = .ssl (encs c37 a1) a1.length false ∧ t 6 = .ssl (encs c97 v1) v1.length false ∧ t 7 = .sc (.int .i64 v2) ∧ t 8 = .ssl (encs c97 v10) v10.length false ∧ t 9 = .sc (.int .i64 v11) ∧ t 10 = .sc (.int .i64 v12) ∧ t 11 = .ssl (encs c97 x17.1) x17.1.length false) (fun J hJ => ?_) ?_
        · simp [-splice, f0, f1, f6, f7, f8, f9, f10, f35]
          exact hJ _ _ _ ⟨by simp [f0], by simp [f1], by simp [f6], by simp [f7], by simp [f8], by simp [f9], by simp [f10], by simp [-splice, f0, f1, f6, f7, f8, f9, f10, f35]⟩
        clear f0 f1 f6 f7 f8 f9 f10 f35
        rintro t H n ⟨f0, f1, f6, f7, f8, f9, f10, f11⟩
        refine Stk.on ?_
        refine Stk.sq ?_
        refine Stk.sq ?_
        refine Stk.rg ?_
        refine Stk.run 4 (fun t H n => t 0 = .ssl (encs c97 a0) a0.length false ∧ t 1 = .ssl (encs c37 a1) a1.length false ∧ t 6 = .ssl (encs c97 v1) v1.length false ∧ t 7 = .sc (.int .i64 v2) ∧ t 8 = .ssl (encs c97 v10) v10.length false ∧ t 9 = .sc (.int .i64 v11) ∧ t 10 = .sc (.int .i64 v12) ∧ t 11 = .ssl (encs c97 x17.1) x17.1.length false ∧ t 41 = .sc (.bool (decide (v12 < (a1.length : Int))))) (fun J hJ => ?_) ?_
        · simp [-splice, f0, f1, f6, f7, f8, f9, f10, f11]
          exact hJ _ _ _ ⟨by simp [f0], by simp [f1], by simp [f6], by simp [f7], by simp [f8], by simp [f9], by simp [f10], by simp [f11], by simp [-splice, f0, f1, f6, f7, f8, f9, f10, f11]⟩
        clear f0 f1 f6 f7 f8 f9 f10 f11
        rintro t H n ⟨f0, f1, f6, f7, f8, f9, f10, f11, f41⟩
        refine Stk.on ?_
        obtain ⟨K4, hK4, h⟩ := jnd h
        refine Stk.jn (fun t H n => ∃ v18 : (List api_Term), K4 v18 = some r ∧ t 0 = .ssl (encs c97 a0) a0.length false ∧ t 1 = .ssl (encs c37 a1) a1.length false ∧ t 6 = .ssl (encs c97 v1) v1.length false ∧ t 7 = .sc (.int .i64 v2) ∧ t 8 = .ssl (encs c97 v10) v10.length false ∧ t 9 = .sc (.int .i64 v11) ∧ t 10 = .sc (.int .i64 v12) ∧ t 11 = .ssl (encs c97 v18) v18.length false) trivial (fun J4 hJ4 => ?_) ?_
        · skip
          refine Stk.cond (decide (v12 < (a1.length : Int))) (by exact f41) (fun hb19 => ?_) (fun hb19 => ?_)
          · have h := cT hb19 h
            refine Stk.rg ?_
            obtain ⟨x20, hx20, h⟩ := bnd h
            obtain ⟨i0x20, i1x20, i2x20, _⟩ := idx_ok hx20
            have ex20_0_37 : partOf T.T 37 (encs c37 a1) (v12.toNat) = some (.ssl (encs c97 x20) x20.length false) := by
                have e0 := part_elem0 (e := c37) (z := 1) (T := T.T) (ty := 37) T.t37 (by decide) (by decide) hx20 0 (by decide)
                (try simp only [Nat.mul_one, Nat.add_zero] at e0)
                exact e0.trans rfl
            refine Stk.run 5 (fun t H n => t 0 = .ssl (encs c97 a0) a0.length false ∧ t 1 = .ssl (encs c37 a1) a1.length false ∧ t 6 = .ssl (encs c97 v1) v1.length false ∧ t 7 = .sc (.int .i64 v2) ∧ t 8 = .ssl (encs c97 v10) v10.length false ∧ t 9 = .sc (.int .i64 v11) ∧ t 10 = .sc (.int .i64 v12) ∧ t 11 = .ssl (encs c97 x20) x20.length false) (fun J hJ => ?_) ?_
            · simp [-splice, f0, f1, f6, f7, f8, f9, f10, f11, f41, i0x20, i1x20, pd37, ex20_0_37]
              exact hJ _ _ _ ⟨by simp [f0], by simp [f1], by simp [f6], by simp [f7], by simp [f8], by simp [f9], by simp [f10], by simp [-splice, f0, f1, f6, f7, f8, f9, f10, f11, f41, i0x20, i1x20, pd37, ex20_0_37]⟩
            clear f0 f1 f6 f7 f8 f9 f10 f11 f41
            rintro t H n ⟨f0, f1, f6, f7, f8, f9, f10, f11⟩
            refine Stk.on ?_
            exact Stk.ln 0 (by decide) (hJ4 _ _ _ ⟨x20, h, f0, f1, f6, f7, f8, f9, f10, f11⟩)
          · have h := cF hb19 h
            refine Stk.sk ?_
            exact Stk.ln 0 (by decide) (hJ4 _ _ _ ⟨x17.1, h, f0, f1, f6, f7, f8, f9, f10, f11⟩)
        clear h f0 f1 f6 f7 f8 f9 f10 f11 f41
        rintro t H n ⟨v18, h, f0, f1, f6, f7, f8, f9, f10, f11⟩
        subst hK4
        refine Stk.sq ?_
        refine Stk.rg ?_
        refine Stk.run 1 (fun t H n => t 0 = .ssl (encs c97 a0) a0.length false ∧ t 1 = .ssl (encs c37 a1) a1.length false ∧ t 6 = .ssl (encs c97 v1) v1.length false ∧ t 7 = .sc (.int .i64 v2) ∧ t 8 = .ssl (encs c97 v10) v10.length false ∧ t 9 = .sc (.int .i64 v11) ∧ t 10 = .sc (.int .i64 v12) ∧ t 11 = .ssl (encs c97 v18) v18.length false ∧ t 13 = .sc (.int .i64 0)) (fun J hJ => ?_) ?_
        · simp [-splice, f0, f1, f6, f7, f8, f9, f10, f11]
          exact hJ _ _ _ ⟨by simp [f0], by simp [f1], by simp [f6], by simp [f7], by simp [f8], by simp [f9], by simp [f10], by simp [f11], by simp [-splice, f0, f1, f6, f7, f8, f9, f10, f11]⟩
        clear f0 f1 f6 f7 f8 f9 f10 f11
        rintro t H n ⟨f0, f1, f6, f7, f8, f9, f10, f11, f13⟩
        refine Stk.on ?_
        obtain ⟨K5, hK5, h⟩ := jnd h
        refine Stk.jn (fun t H n => ∃ v21 : (List api_Term), ∃ v22 : Int, K5 v21 v22 = some r ∧ t 0 = .ssl (encs c97 a0) a0.length false ∧ t 1 = .ssl (encs c37 a1) a1.length false ∧ t 6 = .ssl (encs c97 v1) v1.length false ∧ t 7 = .sc (.int .i64 v2) ∧ t 8 = .ssl (encs c97 v21) v21.length false ∧ t 9 = .sc (.int .i64 v22) ∧ t 10 = .sc (.int .i64 v12)) trivial (fun J5 hJ5 => ?_) ?_
        · skip
          refine Stk.bk ?_
          refine Stk.lo (fun μ t H n => ∃ v23 : (List api_Term), ∃ v24 : Int, ∃ v25 : Int, R13_Put_L2 F a0 v2 v12 v18 K5 μ v23 v24 v25 = some r ∧ t 0 = .ssl (encs c97 a0) a0.length false ∧ t 1 = .ssl (encs c37 a1) a1.length false ∧ t 6 = .ssl (encs c97 v1) v1.length false ∧ t 7 = .sc (.int .i64 v2) ∧ t 8 = .ssl (encs c97 v23) v23.length false ∧ t 9 = .sc (.int .i64 v24) ∧ t 10 = .sc (.int .i64 v12) ∧ t 11 = .ssl (encs c97 v18) v18.length false ∧ t 13 = .sc (.int .i64 v25)) F ⟨v10, v11, 0, h, f0, f1, f6, f7, f8, f9, f10, f11, f13⟩ ?_
          clear h f0 f1 f6 f7 f8 f9 f10 f11 f13
          rintro J6 hJ6 μ t H n ⟨v23, v24, v25, h, f0, f1, f6, f7, f8, f9, f10, f11, f13⟩
          cases μ with
          | zero => exact absurd h (by simp [R13_Put_L2])
          | succ μ =>
          rw [R13_Put_L2] at h
          refine Stk.sq ?_
          refine Stk.sq ?_
          refine Stk.rg ?_
          obtain ⟨x29, hx29, h⟩ := bnd h
          obtain ⟨i0x29, i1x29, i2x29, _⟩ := idx_ok hx29
          obtain ⟨x30, hx30, h⟩ := bnd h
          obtain ⟨i0x30, i1x30, i2x30, _⟩ := idx_ok hx30
          have i3x30 : v12 < 12 := by rw [x29.Exps.2] at i1x30; exact i1x30
          have i4x30 : v12.toNat < 12 := by omega
          have qx30 : partOf T.T 5 (encs c97 a0) (v2.toNat * 13 + v12.toNat) = some (.sc (.int .u8 x30)) := by
            have e1 := part_elem0 (e := c97) (z := 13) (T := T.T) (ty := 5) T.t5 (by decide) (by decide) hx29 v12.toNat (by show _ + 1 ≤ _; omega)
            have e2 : partOf T.T 5 (c97 x29) v12.toNat = some (.sc (.int .u8 x30)) := by
              rw [c97]
              rw [part_head T.t5 (by decide) (by rw [Enc.len (e := c95)]; show _ + 1 ≤ _; omega)]
              rw [c95]
              have e0 := part_elem0 (e := c5) (z := 1) (T := T.T) (ty := 5) T.t5 (by decide) (by decide) hx30 0 (by decide)
              (try simp only [Nat.mul_one, Nat.add_zero] at e0)
              exact e0.trans rfl
            rw [e2] at e1
            simpa [Nat.add_assoc] using e1
          refine Stk.run 11 (fun t H n => t 0 = .ssl (encs c97 a0) a0.length false ∧ t 1 = .ssl (encs c37 a1) a1.length false ∧ t 6 = .ssl (encs c97 v1) v1.length false ∧ t 7 = .sc (.int .i64 v2) ∧ t 8 = .ssl (encs c97 v23) v23.length false ∧ t 9 = .sc (.int .i64 v24) ∧ t 10 = .sc (.int .i64 v12) ∧ t 11 = .ssl (encs c97 v18) v18.length false ∧ t 13 = .sc (.int .i64 v25) ∧ t 56 = .sc (.bool (decide (v25 < (IntKind.i64.wrap x30))))) (fun J hJ => ?_) ?_
          · simp [-splice, f0, f1, f6, f7, f8, f9, f10, f11, f13, i0x29, i1x29, i0x30, i1x30, i3x30, i4x30, pd5, qx30]
            exact hJ _ _ _ ⟨by simp [f0], by simp [f1], by simp [f6], by simp [f7], by simp [f8], by simp [f9], by simp [f10], by simp [f11], by simp [f13], by simp [-splice, f0, f1, f6, f7, f8, f9, f10, f11, f13, i0x29, i1x29, i0x30, i1x30, i3x30, i4x30, pd5, qx30]⟩
          clear f0 f1 f6 f7 f8 f9 f10 f11 f13
          rintro t H n ⟨f0, f1, f6, f7, f8, f9, f10, f11, f13, f56⟩
          refine Stk.jo 3 (fun t H n => t 0 = .ssl (encs c97 a0) a0.length false ∧ t 1 = .ssl (encs c37 a1) a1.length false ∧ t 6 = .ssl (encs c97 v1) v1.length false ∧ t 7 = .sc (.int .i64 v2) ∧ t 8 = .ssl (encs c97 v23) v23.length false ∧ t 9 = .sc (.int .i64 v24) ∧ t 10 = .sc (.int .i64 v12) ∧ t 11 = .ssl (encs c97 v18) v18.length false ∧ t 13 = .sc (.int .i64 v25) ∧ t 59 = .sc (.bool ((decide (v25 < (IntKind.i64.wrap x30))) && (v24 == 0)))) (fun J7 hJ7 => ?_) ?_
          · rcases Bool.eq_false_or_eq_true (decide (v25 < (IntKind.i64.wrap x30))) with hb7 | hb7
            · rw [hb7] at f56
              refine Stk.run 3 (fun t H n => t 0 = .ssl (encs c97 a0) a0.length false ∧ t 1 = .ssl (encs c37 a1) a1.length false ∧ t 6 = .ssl (encs c97 v1) v1.length false ∧ t 7 = .sc (.int .i64 v2) ∧ t 8 = .ssl (encs c97 v23) v23.length false ∧ t 9 = .sc (.int .i64 v24) ∧ t 10 = .sc (.int .i64 v12) ∧ t 11 = .ssl (encs c97 v18) v18.length false ∧ t 13 = .sc (.int .i64 v25) ∧ t 59 = .sc (.bool (v24 == 0))) (fun J hJ => ?_) ?_
              · simp [-splice, f0, f1, f6, f7, f8, f9, f10, f11, f13, f56]
                exact hJ _ _ _ ⟨by simp [f0], by simp [f1], by simp [f6], by simp [f7], by simp [f8], by simp [f9], by simp [f10], by simp [f11], by simp [f13], by simp [-splice, f0, f1, f6, f7, f8, f9, f10, f11, f13, f56]⟩
              clear f0 f1 f6 f7 f8 f9 f10 f11 f13 f56
              rintro t H n ⟨f0, f1, f6, f7, f8, f9, f10, f11, f13, f59⟩
              refine Stk.on ?_
              exact Stk.ln 0 (by decide) (hJ7 _ _ _ ⟨f0, f1, f6, f7, f8, f9, f10, f11, f13, f59.trans (congrArg (fun q => AV.sc (.bool q)) (by rw [hb7]; rfl))⟩)
            · rw [hb7] at f56
              refine Stk.run 3 (fun t H n => t 0 = .ssl (encs c97 a0) a0.length false ∧ t 1 = .ssl (encs c37 a1) a1.length false ∧ t 6 = .ssl (encs c97 v1) v1.length false ∧ t 7 = .sc (.int .i64 v2) ∧ t 8 = .ssl (encs c97 v23) v23.length false ∧ t 9 = .sc (.int .i64 v24) ∧ t 10 = .sc (.int .i64 v12) ∧ t 11 = .ssl (encs c97 v18) v18.length false ∧ t 13 = .sc (.int .i64 v25) ∧ t 59 = .sc (.bool false)) (fun J hJ => ?_) ?_
              · simp [-splice, f0, f1, f6, f7, f8, f9, f10, f11, f13, f56]
                exact hJ _ _ _ ⟨by simp [f0], by simp [f1], by simp [f6], by simp [f7], by simp [f8], by simp [f9], by simp [f10], by simp [f11], by simp [f13], by simp [-splice, f0, f1, f6, f7, f8, f9, f10, f11, f13, f56]⟩
              clear f0 f1 f6 f7 f8 f9 f10 f11 f13 f56
              rintro t H n ⟨f0, f1, f6, f7, f8, f9, f10, f11, f13, f59⟩
              refine Stk.on ?_
              exact Stk.ln 0 (by decide) (hJ7 _ _ _ ⟨f0, f1, f6, f7, f8, f9, f10, f11, f13, f59.trans (congrArg (fun q => AV.sc (.bool q)) (by rw [hb7]; rfl))⟩)
          clear f0 f1 f6 f7 f8 f9 f10 f11 f13 f56
          rintro t H n ⟨f0, f1, f6, f7, f8, f9, f10, f11, f13, f59⟩
          refine Stk.on ?_
          refine Stk.cond ((decide (v25 < (IntKind.i64.wrap x30))) && (v24 == 0)) (by exact f59) (fun hb31 => ?_) (fun hb31 => ?_)
          · have h := cT hb31 h
            refine Stk.sk ?_
            refine Stk.sq ?_
            refine Stk.bk ?_
            refine Stk.rg ?_
            refine Stk.run 2 (fun t H n => t 0 = .ssl (encs c97 a0) a0.length false ∧ t 1 = .ssl (encs c37 a1) a1.length false ∧ t 6 = .ssl (encs c97 v1) v1.length false ∧ t 7 = .sc (.int .i64 v2) ∧ t 10 = .sc (.int .i64 v12) ∧ t 11 = .ssl (encs c97 v18) v18.length false ∧ t 13 = .sc (.int .i64 v25) ∧ t 63 = .ssl (encs c97 v23) v23.length false ∧ t 64 = .ssl (encs c97 v18) v18.length false) (fun J hJ => ?_) ?_
            · simp [-splice, f0, f1, f6, f7, f8, f9, f10, f11, f13, f59]
              exact hJ _ _ _ ⟨by simp [f0], by simp [f1], by simp [f6], by simp [f7], by simp [f10], by simp [f11], by simp [f13], by simp [-splice, f0, f1, f6, f7, f8, f9, f10, f11, f13, f59], by simp [-splice, f0, f1, f6, f7, f8, f9, f10, f11, f13, f59]⟩
            clear f0 f1 f6 f7 f8 f9 f10 f11 f13 f59
            rintro t H n ⟨f0, f1, f6, f7, f10, f11, f13, f63, f64⟩
            obtain ⟨x32, hx32, h⟩ := bnd h
            refine Stk.cv (g := 28) (args := [.ssl (encs c97 v23) v23.length false, .ssl (encs c97 v18) v18.length false]) (args' := [.ssl (encs c97 v23) v23.length false, .ssl (encs c97 v18) v18.length false]) (v := .tup [.ssl (encs c97 x32.1) x32.1.length false, .sc (.int .i64 x32.2)]) [] (ok_R13_Mul F _ _ _ hx32) (by simp [f0, f1, f6, f7, f10, f11, f13, f63, f64]) rfl rfl (by simp [f0, f1, f6, f7, f10, f11, f13, f63, f64]) (.cons (.free (freeL_encs fr97 _)) (.cons (.free (freeL_encs fr97 _)) (.nil))) (.inl ⟨rfl, by simp [free, freeL, freeL_encs fr97]⟩) (fun t' ht' => ?_)
            refine Stk.gen (fun t H n => t 0 = .ssl (encs c97 a0) a0.length false ∧ t 1 = .ssl (encs c37 a1) a1.length false ∧ t 6 = .ssl (encs c97 v1) v1.length false ∧ t 7 = .sc (.int .i64 v2) ∧ t 10 = .sc (.int .i64 v12) ∧ t 11 = .ssl (encs c97 v18) v18.length false ∧ t 13 = .sc (.int .i64 v25) ∧ t 65 = .tup [.ssl (encs c97 x32.1) x32.1.length false, .sc (.int .i64 x32.2)]) ⟨by simp [ht', f0], by simp [ht', f1], by simp [ht', f6], by simp [ht', f7], by simp [ht', f10], by simp [ht', f11], by simp [ht', f13], by simp [ht']⟩ ?_
            clear f0 f1 f6 f7 f10 f11 f13 f63 f64 ht' t'
            rintro t H n ⟨f0, f1, f6, f7, f10, f11, f13, f65⟩
            refine Stk.run 5 (fun t H n => t 0 = .ssl (encs c97 a0) a0.length false ∧ t 1 = .ssl (encs c37 a1) a1.length false ∧ t 6 = .ssl (encs c97 v1) v1.length false ∧ t 7 = .sc (.int .i64 v2) ∧ t 8 = .ssl (encs c97 x32.1) x32.1.length false ∧ t 9 = .sc (.int .i64 x32.2) ∧ t 10 = .sc (.int .i64 v12) ∧ t 11 = .ssl (encs c97 v18) v18.length false ∧ t 13 = .sc (.int .i64 v25)) (fun J hJ => ?_) ?_
            · simp [-splice, f0, f1, f6, f7, f10, f11, f13, f65]
              exact hJ _ _ _ ⟨by simp [f0], by simp [f1], by simp [f6], by simp [f7], by simp [-splice, f0, f1, f6, f7, f10, f11, f13, f65], by simp [-splice, f0, f1, f6, f7, f10, f11, f13, f65], by simp [f10], by simp [f11], by simp [f13]⟩
            clear f0 f1 f6 f7 f10 f11 f13 f65
            rintro t H n ⟨f0, f1, f6, f7, f8, f9, f10, f11, f13⟩
            refine Stk.on ?_
            refine Stk.bn ?_
            refine Stk.rg ?_
            refine Stk.run 3 (fun t H n => t 0 = .ssl (encs c97 a0) a0.length false ∧ t 1 = .ssl (encs c37 a1) a1.length false ∧ t 6 = .ssl (encs c97 v1) v1.length false ∧ t 7 = .sc (.int .i64 v2) ∧ t 8 = .ssl (encs c97 x32.1) x32.1.length false ∧ t 9 = .sc (.int .i64 x32.2) ∧ t 10 = .sc (.int .i64 v12) ∧ t 11 = .ssl (encs c97 v18) v18.length false ∧ t 13 = .sc (.int .i64 (IntKind.i64.wrap (v25 + 1)))) (fun J hJ => ?_) ?_
            · simp [-splice, f0, f1, f6, f7, f8, f9, f10, f11, f13]
              exact hJ _ _ _ ⟨by simp [f0], by simp [f1], by simp [f6], by simp [f7], by simp [f8], by simp [f9], by simp [f10], by simp [f11], by simp [-splice, f0, f1, f6, f7, f8, f9, f10, f11, f13]⟩
            clear f0 f1 f6 f7 f8 f9 f10 f11 f13
            rintro t H n ⟨f0, f1, f6, f7, f8, f9, f10, f11, f13⟩
            refine Stk.on ?_
            exact Stk.ln μ (Nat.lt_succ_self _) (hJ6 _ _ _ _ ⟨x32.1, x32.2, (IntKind.i64.wrap (v25 + 1)), h, f0, f1, f6, f7, f8, f9, f10, f11, f13⟩)
          · have h := cF hb31 h
            refine Stk.ex rfl ?_
            exact Stk.ln 0 (by decide) (hJ5 _ _ _ ⟨v23, v24, h, f0, f1, f6, f7, f8, f9, f10⟩)
        clear h f0 f1 f6 f7 f8 f9 f10 f11 f13
        rintro t H n ⟨v21, v22, h, f0, f1, f6, f7, f8, f9, f10⟩
        subst hK5
        refine Stk.bn ?_
        refine Stk.rg ?_
        refine Stk.run 3 (fun t H n => t 0 = .ssl (encs c97 a0) a0.length false ∧ t 1 = .ssl (encs c37 a1) a1.length false ∧ t 6 = .ssl (encs c97 v1) v1.length false ∧ t 7 = .sc (.int .i64 v2) ∧ t 8 = .ssl (encs c97 v21) v21.length false ∧ t 9 = .sc (.int .i64 v22) ∧ t 10 = .sc (.int .i64 (IntKind.i64.wrap (v12 + 1)))) (fun J hJ => ?_) ?_
        · simp [-splice, f0, f1, f6, f7, f8, f9, f10]
          exact hJ _ _ _ ⟨by simp [f0], by simp [f1], by simp [f6], by simp [f7], by simp [f8], by simp [f9], by simp [-splice, f0, f1, f6, f7, f8, f9, f10]⟩
        clear f0 f1 f6 f7 f8 f9 f10
        rintro t H n ⟨f0, f1, f6, f7, f8, f9, f10⟩
        refine Stk.on ?_
        exact Stk.ln μ (Nat.lt_succ_self _) (hJ3 _ _ _ _ ⟨v21, v22, (IntKind.i64.wrap (v12 + 1)), h, f0, f1, f6, f7, f8, f9, f10⟩)
      · have h := cF hb16 h
        refine Stk.ex rfl ?_
        exact Stk.ln 0 (by decide) (hJ2 _ _ _ ⟨v10, v11, h, f0, f1, f6, f7, f8, f9⟩)
    clear h f0 f1 f6 f7 f8 f9 f10
    rintro t H n ⟨v8, v9, h, f0, f1, f6, f7, f8, f9⟩
    subst hK2
    refine Stk.sq ?_
    refine Stk.sq ?_
    refine Stk.rg ?_
    refine Stk.run 2 (fun t H n => t 0 = .ssl (encs c97 a0) a0.length false ∧ t 1 = .ssl (encs c37 a1) a1.length false ∧ t 6 = .ssl (encs c97 v1) v1.length false ∧ t 7 = .sc (.int .i64 v2) ∧ t 8 = .ssl (encs c97 v8) v8.length false ∧ t 9 = .sc (.int .i64 v9) ∧ t 69 = .sc (.bool (v9 == 0))) (fun J hJ => ?_) ?_
    · simp [-splice, f0, f1, f6, f7, f8, f9]
      exact hJ _ _ _ ⟨by simp [f0], by simp [f1], by simp [f6], by simp [f7], by simp [f8], by simp [f9], by simp [-splice, f0, f1, f6, f7, f8, f9]⟩
    clear f0 f1 f6 f7 f8 f9
    rintro t H n ⟨f0, f1, f6, f7, f8, f9, f69⟩
    refine Stk.on ?_
    obtain ⟨K8, hK8, h⟩ := jnd h
    refine Stk.jn (fun t H n => ∃ v33 : (List api_Term), ∃ v34 : Int, K8 v33 v34 = some r ∧ t 0 = .ssl (encs c97 a0) a0.length false ∧ t 1 = .ssl (encs c37 a1) a1.length false ∧ t 6 = .ssl (encs c97 v33) v33.length false ∧ t 7 = .sc (.int .i64 v2) ∧ t 9 = .sc (.int .i64 v34)) trivial (fun J8 hJ8 => ?_) ?_
    · skip
      refine Stk.cond (v9 == 0) (by exact f69) (fun hb35 => ?_) (fun hb35 => ?_)
      · have h := cT hb35 h
        refine Stk.rg ?_
        refine Stk.run 2 (fun t H n => t 0 = .ssl (encs c97 a0) a0.length false ∧ t 1 = .ssl (encs c37 a1) a1.length false ∧ t 7 = .sc (.int .i64 v2) ∧ t 71 = .ssl (encs c97 v1) v1.length false ∧ t 72 = .ssl (encs c97 v8) v8.length false) (fun J hJ => ?_) ?_
        · simp [-splice, f0, f1, f6, f7, f8, f9, f69]
          exact hJ _ _ _ ⟨by simp [f0], by simp [f1], by simp [f7], by simp [-splice, f0, f1, f6, f7, f8, f9, f69], by simp [-splice, f0, f1, f6, f7, f8, f9, f69]⟩
        clear f0 f1 f6 f7 f8 f9 f69
        rintro t H n ⟨f0, f1, f7, f71, f72⟩
        obtain ⟨x36, hx36, h⟩ := bnd h
        refine Stk.cv (g := 27) (args := [.ssl (encs c97 v1) v1.length false, .ssl (encs c97 v8) v8.length false]) (args' := [.ssl (encs c97 v1) v1.length false, .ssl (encs c97 v8) v8.length false]) (v := .tup [.ssl (encs c97 x36.1) x36.1.length false, .sc (.int .i64 x36.2)]) [] (ok_R13_Add F _ _ _ hx36) (by simp [f0, f1, f7, f71, f72]) rfl rfl (by simp [f0, f1, f7, f71, f72]) (.cons (.free (freeL_encs fr97 _)) (.cons (.free (freeL_encs fr97 _)) (.nil))) (.inl ⟨rfl, by simp [free, freeL, freeL_encs fr97]⟩) (fun t' ht' => ?_)
        refine Stk.gen (fun t H n => t 0 = .ssl (encs c97 a0) a0.length false ∧ t 1 = .ssl (encs c37 a1) a1.length false ∧ t 7 = .sc (.int .i64 v2) ∧ t 73 = .tup [.ssl (encs c97 x36.1) x36.1.length false, .sc (.int .i64 x36.2)]) ⟨by simp [ht', f0], by simp [ht', f1], by simp [ht', f7], by simp [ht']⟩ ?_
        clear f0 f1 f7 f71 f72 ht' t'
        rintro t H n ⟨f0, f1, f7, f73⟩
        refine Stk.run 5 (fun t H n => t 0 = .ssl (encs c97 a0) a0.length false ∧ t 1 = .ssl (encs c37 a1) a1.length false ∧ t 6 = .ssl (encs c97 x36.1) x36.1.length false ∧ t 7 = .sc (.int .i64 v2) ∧ t 9 = .sc (.int .i64 x36.2)) (fun J hJ => ?_) ?_
        · simp [-splice, f0, f1, f7, f73]
          exact hJ _ _ _ ⟨by simp [f0], by simp [f1], by simp [-splice, f0, f1, f7, f73], by simp [f7], by simp [-splice, f0, f1, f7, f73]⟩
        clear f0 f1 f7 f73
        rintro t H n ⟨f0, f1, f6, f7, f9⟩
        refine Stk.on ?_
        exact Stk.ln 0 (by decide) (hJ8 _ _ _ ⟨x36.1, x36.2, h, f0, f1, f6, f7, f9⟩)
      · have h := cF hb35 h
        refine Stk.sk ?_
        exact Stk.ln 0 (by decide) (hJ8 _ _ _ ⟨v1, v9, h, f0, f1, f6, f7, f9⟩)
    clear h f0 f1 f6 f7 f8 f9 f69
    rintro t H n ⟨v33, v34, h, f0, f1, f6, f7, f9⟩
    subst hK8
    refine Stk.sq ?_
    refine Stk.rg ?_
    refine Stk.run 2 (fun t H n => t 0 = .ssl (encs c97 a0) a0.length false ∧ t 1 = .ssl (encs c37 a1) a1.length false ∧ t 6 = .ssl (encs c97 v33) v33.length false ∧ t 7 = .sc (.int .i64 v2) ∧ t 9 = .sc (.int .i64 v34) ∧ t 77 = .sc (.bool (v34 != 0))) (fun J hJ => ?_) ?_
    · simp [-splice, f0, f1, f6, f7, f9]
      exact hJ _ _ _ ⟨by simp [f0], by simp [f1], by simp [f6], by simp [f7], by simp [f9], by simp [-splice, f0, f1, f6, f7, f9]⟩
    clear f0 f1 f6 f7 f9
    rintro t H n ⟨f0, f1, f6, f7, f9, f77⟩
    refine Stk.on ?_
    refine Stk.cond (v34 != 0) (by exact f77) (fun hb37 => ?_) (fun hb37 => ?_)
    · have h := cT hb37 h
      refine Stk.sq ?_
      refine Stk.rg ?_
      refine Stk.run 2 (fun t H n => t 4 = .sc (.slice none 0 0) ∧ t 78 = .sc (.int .i64 v34)) (fun J hJ => ?_) ?_
      · simp [-splice, f0, f1, f6, f7, f9, f77]
        exact hJ _ _ _ ⟨by simp [-splice, f0, f1, f6, f7, f9, f77], by simp [-splice, f0, f1, f6, f7, f9, f77]⟩
      clear f0 f1 f6 f7 f9 f77
      rintro t H n ⟨f4, f78⟩
      refine Stk.wk trivial 4 (.ssl (encs c97 ([] : (List api_Term))) ([] : (List api_Term)).length false) (by rw [f4]; exact .inr (.inr .nilS)) (fun t' ht' => ?_)
      refine Stk.gen (fun t H n => t 4 = .ssl (encs c97 ([] : (List api_Term))) ([] : (List api_Term)).length false ∧ t 78 = .sc (.int .i64 v34)) ⟨by simp [ht', f4], by simp [ht', f78]⟩ ?_
      clear f4 f78 ht' t'
      rintro t H n ⟨f4, f78⟩
      refine Stk.run 1 (fun t H n => t 4 = .ssl (encs c97 ([] : (List api_Term))) ([] : (List api_Term)).length false ∧ t 5 = .sc (.int .i64 v34)) (fun J hJ => ?_) ?_
      · simp [-splice, f4, f78]
        exact hJ _ _ _ ⟨by simp [f4], by simp [-splice, f4, f78]⟩
      clear f4 f78
      rintro t H n ⟨f4, f5⟩
      refine Stk.on ?_
      refine Stk.rt ?_
      have hq := Option.some.inj h; subst hq
      exact (hr _ _ _ (.tup [.ssl (encs c97 ([] : (List api_Term))) ([] : (List api_Term)).length false, .sc (.int .i64 v34)]) ([]) (by simp [f4, f5]) (.inr (.inr (.tup (.cons (.free (freeL_encs fr97 _)) (.cons (.free (rfl)) (.nil))))))).1
    · have h := cF hb37 h
      refine Stk.sk ?_
      refine Stk.bn ?_
      refine Stk.rg ?_
      refine Stk.run 3 (fun t H n => t 0 = .ssl (encs c97 a0) a0.length false ∧ t 1 = .ssl (encs c37 a1) a1.length false ∧ t 6 = .ssl (encs c97 v33) v33.length false ∧ t 7 = .sc (.int .i64 (IntKind.i64.wrap (v2 + 1)))) (fun J hJ => ?_) ?_
      · simp [-splice, f0, f1, f6, f7, f9, f77]
        exact hJ _ _ _ ⟨by simp [f0], by simp [f1], by simp [f6], by simp [-splice, f0, f1, f6, f7, f9, f77]⟩
      clear f0 f1 f6 f7 f9 f77
      rintro t H n ⟨f0, f1, f6, f7⟩
      refine Stk.on ?_
      exact Stk.ln μ (Nat.lt_succ_self _) (hJ1 _ _ _ _ ⟨v33, (IntKind.i64.wrap (v2 + 1)), h, f0, f1, f6, f7⟩)
  · have h := cF hb5 h
    refine Stk.ex rfl ?_
    refine Stk.sq ?_
    refine Stk.rg ?_
    refine Stk.run 3 (fun t H n => t 4 = .ssl (encs c97 v1) v1.length false ∧ t 5 = .sc (.int .i64 0)) (fun J hJ => ?_) ?_
    · simp [-splice, f0, f1, f6, f7, f17]
      exact hJ _ _ _ ⟨by simp [-splice, f0, f1, f6, f7, f17], by simp [-splice, f0, f1, f6, f7, f17]⟩
    clear f0 f1 f6 f7 f17
    rintro t H n ⟨f4, f5⟩
    refine Stk.on ?_
    refine Stk.rt ?_
    have hq := Option.some.inj h; subst hq
    exact (hr _ _ _ (.tup [.ssl (encs c97 v1) v1.length false, .sc (.int .i64 0)]) ([]) (by simp [f4, f5]) (.inr (.inr (.tup (.cons (.free (freeL_encs fr97 _)) (.cons (.free (rfl)) (.nil))))))).1
end Go.Proofs.Ytfbkgjmpadknfaa.M
