/-
  The functions come to them.
-/
import Derived.Test.YtfbkgjmpadknfaaGM
import Derived.Test.YtfbkgjmpadknfaaGW3
namespace Go.Proofs.Ytfbkgjmpadknfaa.M
open Go.Proofs.YtfbkgjmpadknfaaW.Ah Go.Proofs.Ytfbkgjmpadknfaa
set_option linter.unusedVariables false
set_option linter.unusedSimpArgs false
set_option maxRecDepth 8000
attribute [local simp] T.t2 T.t3 T.t4 T.t5 T.t37 T.t39 T.t95 T.t97 List.range List.range.loop
attribute [-simp] appendAV fillAV
theorem ok_R13_Fit (F : Nat) (a0 : (List api_Term)) (r : Bool) (h : R13_Fit F a0 = some r) : RunF Try.prog T.T 23 [.ssl (encs c97 a0) a0.length false] (.sc (.bool r)) := by
  rw [R13_Fit] at h
  refine RunF.z Try.func23 rfl rfl rfl rfl rfl (fun C hr => ?_)
  refine Stk.gen (fun t H n => t 0 = .ssl (encs c97 a0) a0.length false) (by simp) ?_
  rintro t H n f0
  refine Stk.sq ?_
  refine Stk.rg ?_
  refine Stk.run 1 (fun t H n => t 0 = .ssl (encs c97 a0) a0.length false) (fun J hJ => ?_) ?_
  · simp [-splice, f0]
    exact hJ _ _ _ (by simp [f0])
  clear f0
  rintro t H n f0
  refine Stk.on ?_
  refine Stk.sq ?_
  refine Stk.sq ?_
  refine Stk.rg ?_
  refine Stk.run 3 (fun t H n => t 0 = .ssl (encs c97 a0) a0.length false ∧ t 7 = .sc (.bool (decide (64 < (a0.length : Int))))) (fun J hJ => ?_) ?_
  · simp [-splice, f0]
    exact hJ _ _ _ ⟨by simp [f0], by simp [-splice, f0]⟩
  clear f0
  rintro t H n ⟨f0, f7⟩
  refine Stk.on ?_
  refine Stk.cond (decide (64 < (a0.length : Int))) (by exact f7) (fun hb1 => ?_) (fun hb1 => ?_)
  · have h := cT hb1 h
    refine Stk.sq ?_
    refine Stk.rg ?_
    refine Stk.run 1 (fun t H n => t 2 = .sc (.bool false)) (fun J hJ => ?_) ?_
    · simp [-splice, f0, f7]
      exact hJ _ _ _ (by simp [-splice, f0, f7])
    clear f0 f7
    rintro t H n f2
    refine Stk.on ?_
    refine Stk.rt ?_
    have hq := Option.some.inj h; subst hq
    exact (hr _ _ _ (.sc (.bool false)) ([]) (by simp [f2]) (.inr (.inr (.free (rfl))))).1
  · have h := cF hb1 h
    refine Stk.sk ?_
    refine Stk.sq ?_
    refine Stk.sq ?_
    refine Stk.rg ?_
    refine Stk.run 1 (fun t H n => t 0 = .ssl (encs c97 a0) a0.length false ∧ t 3 = .sc (.int .i64 0)) (fun J hJ => ?_) ?_
    · simp [-splice, f0, f7]
      exact hJ _ _ _ ⟨by simp [f0], by simp [-splice, f0, f7]⟩
    clear f0 f7
    rintro t H n ⟨f0, f3⟩
    refine Stk.on ?_
    refine Stk.bk ?_
    refine Stk.lo (fun μ t H n => ∃ v2 : Int, R13_Fit_L0 F a0 μ v2 = some r ∧ t 0 = .ssl (encs c97 a0) a0.length false ∧ t 3 = .sc (.int .i64 v2)) F ⟨0, h, f0, f3⟩ ?_
    clear h f0 f3
    rintro J1 hJ1 μ t H n ⟨v2, h, f0, f3⟩
    cases μ with
    | zero => exact absurd h (by simp [R13_Fit_L0])
    | succ μ =>
    rw [R13_Fit_L0] at h
    refine Stk.sq ?_
    refine Stk.sq ?_
    refine Stk.rg ?_
    refine Stk.run 4 (fun t H n => t 0 = .ssl (encs c97 a0) a0.length false ∧ t 3 = .sc (.int .i64 v2) ∧ t 11 = .sc (.bool (decide (v2 < (a0.length : Int))))) (fun J hJ => ?_) ?_
    · simp [-splice, f0, f3]
      exact hJ _ _ _ ⟨by simp [f0], by simp [f3], by simp [-splice, f0, f3]⟩
    clear f0 f3
    rintro t H n ⟨f0, f3, f11⟩
    refine Stk.on ?_
    refine Stk.cond (decide (v2 < (a0.length : Int))) (by exact f11) (fun hb4 => ?_) (fun hb4 => ?_)
    · have h := cT hb4 h
      refine Stk.sk ?_
      refine Stk.sq ?_
      refine Stk.bk ?_
      refine Stk.sq ?_
      refine Stk.sq ?_
      obtain ⟨n0, hn0⟩ : ∃ m, m = n := ⟨n, rfl⟩
      have ln0 : n0 ≤ n := Nat.le_of_eq hn0
      refine Stk.rgD [.rd [], .rd [], .rd [], .rd [], .rd [], .rd [], .rd [], .rd [], .rd [], .rd [], .rd [], .rd [], .rd [], .rd [], .rd [], .rd [], .rd [], .rd [], .rd [], .rd [], .rd [], .rd [], .rd [], .rd [], .rd [], .rd [], .rd [], .rd [], .rd [], .rd [], .rd [], .rd [], .rd []] none (by kernel_rfl) (by rfl) rfl (by simp [below]) rfl ?_
      obtain ⟨x5, hx5, h⟩ := bnd h
      obtain ⟨i0x5, i1x5, i2x5, _⟩ := idx_ok hx5
      have ex5_12_2 : partOf T.T 2 (encs c97 a0) (v2.toNat * 13 + 12) = some (.sc (.int .i64 x5.Coef)) := by
          have e0 := part_elem0 (e := c97) (z := 13) (T := T.T) (ty := 2) T.t2 (by decide) (by decide) hx5 12 (by decide)
          (try simp only [Nat.mul_one, Nat.add_zero] at e0)
          exact e0.trans (ld_97_12_2 _)
      refine Stk.runD 7 (fun t H n => t 0 = .ssl (encs c97 a0) a0.length false ∧ t 3 = .sc (.int .i64 v2) ∧ t 20 = .sc (.bool (decide (x5.Coef < 1))) ∧ n0 ≤ n) (fun J hJ => ?_) ?_
      · simp [-splice, f0, f3, f11, i0x5, i1x5, pd2, ex5_12_2]
        exact hJ _ _ _ ⟨by simp [f0], by simp [f3], by simp [-splice, f0, f3, f11, i0x5, i1x5, pd2, ex5_12_2], ln0⟩
      clear f0 f3 f11 ln0
      rintro t H n ⟨f0, f3, f20, ln0⟩
      obtain ⟨K2, hK2, h⟩ := jnd h
      refine Stk.jd 7 (fun t H n => ∃ v6 : Bool, K2 v6 = some r ∧ t 0 = .ssl (encs c97 a0) a0.length false ∧ t 3 = .sc (.int .i64 v2) ∧ t 27 = .sc (.bool v6)) (fun J2 hJ2 => ?_) ?_
      · rcases Bool.eq_false_or_eq_true (decide (x5.Coef < 1)) with hb2 | hb2
        · rw [hb2] at f20
          replace h := cT hb2 h
          refine Stk.runD 7 (fun t H n => t 0 = .ssl (encs c97 a0) a0.length false ∧ t 3 = .sc (.int .i64 v2) ∧ t 27 = .sc (.bool true) ∧ n0 ≤ n) (fun J hJ => ?_) ?_
          · simp [-splice, f0, f3, f20]
            exact hJ _ _ _ ⟨by simp [f0], by simp [f3], by simp [-splice, f0, f3, f20], ln0⟩
          clear f0 f3 f20 ln0
          rintro t H n ⟨f0, f3, f27, ln0⟩
          refine Stk.onD ?_
          exact Stk.ln 0 (by decide) (hJ2 _ _ _ ⟨true, h, f0, f3, f27⟩)
        · rw [hb2] at f20
          replace h := cF hb2 h
          obtain ⟨x7, hx7, h⟩ := bnd h
          obtain ⟨i0x7, i1x7, i2x7, _⟩ := idx_ok hx7
          have ex7_12_2 : partOf T.T 2 (encs c97 a0) (v2.toNat * 13 + 12) = some (.sc (.int .i64 x7.Coef)) := by
              have e0 := part_elem0 (e := c97) (z := 13) (T := T.T) (ty := 2) T.t2 (by decide) (by decide) hx7 12 (by decide)
              (try simp only [Nat.mul_one, Nat.add_zero] at e0)
              exact e0.trans (ld_97_12_2 _)
          refine Stk.runD 7 (fun t H n => t 0 = .ssl (encs c97 a0) a0.length false ∧ t 3 = .sc (.int .i64 v2) ∧ t 27 = .sc (.bool (decide (1099511627776 < x7.Coef))) ∧ n0 ≤ n) (fun J hJ => ?_) ?_
          · simp [-splice, f0, f3, f20, i0x7, i1x7, pd2, ex7_12_2]
            exact hJ _ _ _ ⟨by simp [f0], by simp [f3], by simp [-splice, f0, f3, f20, i0x7, i1x7, pd2, ex7_12_2], ln0⟩
          clear f0 f3 f20 ln0
          rintro t H n ⟨f0, f3, f27, ln0⟩
          refine Stk.onD ?_
          exact Stk.ln 0 (by decide) (hJ2 _ _ _ ⟨(decide (1099511627776 < x7.Coef)), h, f0, f3, f27⟩)
      clear h f0 f3 f20 ln0
      rintro t H n ⟨v6, h, f0, f3, f27⟩
      subst hK2
      refine Stk.runD 1 (fun t H n => t 0 = .ssl (encs c97 a0) a0.length false ∧ t 3 = .sc (.int .i64 v2) ∧ t 28 = .sc (.bool v6)) (fun J hJ => ?_) ?_
      · simp [-splice, f0, f3, f27]
        exact hJ _ _ _ ⟨by simp [f0], by simp [f3], by simp [-splice, f0, f3, f27]⟩
      clear f0 f3 f27
      rintro t H n ⟨f0, f3, f28⟩
      obtain ⟨K3, hK3, h⟩ := jnd h
      refine Stk.jd 18 (fun t H n => ∃ v8 : Bool, K3 v8 = some r ∧ t 0 = .ssl (encs c97 a0) a0.length false ∧ t 3 = .sc (.int .i64 v2) ∧ t 46 = .sc (.bool v8)) (fun J3 hJ3 => ?_) ?_
      · rcases Bool.eq_false_or_eq_true v6 with hb3 | hb3
        · rw [hb3] at f28
          replace h := cT hb3 h
          refine Stk.runD 18 (fun t H n => t 0 = .ssl (encs c97 a0) a0.length false ∧ t 3 = .sc (.int .i64 v2) ∧ t 46 = .sc (.bool true)) (fun J hJ => ?_) ?_
          · simp [-splice, f0, f3, f28]
            exact hJ _ _ _ ⟨by simp [f0], by simp [f3], by simp [-splice, f0, f3, f28]⟩
          clear f0 f3 f28
          rintro t H n ⟨f0, f3, f46⟩
          refine Stk.onD ?_
          exact Stk.ln 0 (by decide) (hJ3 _ _ _ ⟨true, h, f0, f3, f46⟩)
        · rw [hb3] at f28
          replace h := cF hb3 h
          refine Stk.runD 3 (fun t H n => t 0 = .ssl (encs c97 a0) a0.length false ∧ t 3 = .sc (.int .i64 v2) ∧ t 28 = .sc (.bool false) ∧ t 31 = .sc (.bool (decide (0 < v2)))) (fun J hJ => ?_) ?_
          · simp [-splice, f0, f3, f28]
            exact hJ _ _ _ ⟨by simp [f0], by simp [f3], by simp [f28], by simp [-splice, f0, f3, f28]⟩
          clear f0 f3 f28
          rintro t H n ⟨f0, f3, f28, f31⟩
          obtain ⟨K4, hK4, h⟩ := jnd h
          refine Stk.jd 14 (fun t H n => ∃ v9 : Bool, K4 v9 = some r ∧ t 0 = .ssl (encs c97 a0) a0.length false ∧ t 3 = .sc (.int .i64 v2) ∧ t 28 = .sc (.bool false) ∧ t 45 = .sc (.bool v9)) (fun J4 hJ4 => ?_) ?_
          · rcases Bool.eq_false_or_eq_true (decide (0 < v2)) with hb4 | hb4
            · rw [hb4] at f31
              replace h := cT hb4 h
              obtain ⟨x10, hx10, h⟩ := bnd h
              obtain ⟨i0x10, i1x10, i2x10, _⟩ := idx_ok hx10
              have ex10_0_95 : partOf T.T 95 (encs c97 a0) ((IntKind.i64.wrap (v2 - 1)).toNat * 13) = some (.agg (c95 x10.Exps)) := by
                  have e0 := part_elem0 (e := c97) (z := 13) (T := T.T) (ty := 95) T.t95 (by decide) (by decide) hx10 0 (by decide)
                  (try simp only [Nat.mul_one, Nat.add_zero] at e0)
                  exact e0.trans (ld_97_0_95 _)
              obtain ⟨x11, hx11, h⟩ := bnd h
              obtain ⟨i0x11, i1x11, i2x11, _⟩ := idx_ok hx11
              have ex11_0_95 : partOf T.T 95 (encs c97 a0) (v2.toNat * 13) = some (.agg (c95 x11.Exps)) := by
                  have e0 := part_elem0 (e := c97) (z := 13) (T := T.T) (ty := 95) T.t95 (by decide) (by decide) hx11 0 (by decide)
                  (try simp only [Nat.mul_one, Nat.add_zero] at e0)
                  exact e0.trans (ld_97_0_95 _)
              refine Stk.runD 11 (fun t H n => t 0 = .ssl (encs c97 a0) a0.length false ∧ t 3 = .sc (.int .i64 v2) ∧ t 28 = .sc (.bool false) ∧ t 31 = .sc (.bool true) ∧ t 37 = .agg (c95 x10.Exps) ∧ t 42 = .agg (c95 x11.Exps)) (fun J hJ => ?_) ?_
              · simp [-splice, f0, f3, f28, f31, i0x10, i1x10, pd95, ex10_0_95, i0x11, i1x11, ex11_0_95]
                exact hJ _ _ _ ⟨by simp [f0], by simp [f3], by simp [f28], by simp [f31], by simp [-splice, f0, f3, f28, f31, i0x10, i1x10, pd95, ex10_0_95, i0x11, i1x11, ex11_0_95], by simp [-splice, f0, f3, f28, f31, i0x10, i1x10, pd95, ex10_0_95, i0x11, i1x11, ex11_0_95]⟩
              clear f0 f3 f28 f31
              rintro t H n ⟨f0, f3, f28, f31, f37, f42⟩
              obtain ⟨x12, hx12, h⟩ := bnd h
              refine Stk.cvD (g := 66) (args := [.agg (c95 x10.Exps), .agg (c95 x11.Exps)]) (args' := [.agg (c95 x10.Exps), .agg (c95 x11.Exps)]) (v := .sc (.bool x12)) [] (ok_R13_less F _ _ _ hx12) rfl (by simp) rfl (by simp [f0, f3, f28, f31, f37, f42]) rfl rfl (by simp [f0, f3, f28, f31, f37, f42]) (.cons (.free (fr95 _)) (.cons (.free (fr95 _)) (.nil))) (.inl ⟨rfl, rfl⟩) (fun t' ht' => ?_)
              refine Stk.gen (fun t H n => t 0 = .ssl (encs c97 a0) a0.length false ∧ t 3 = .sc (.int .i64 v2) ∧ t 28 = .sc (.bool false) ∧ t 31 = .sc (.bool true) ∧ t 43 = .sc (.bool x12)) ⟨by simp [ht', f0], by simp [ht', f3], by simp [ht', f28], by simp [ht', f31], by simp [ht']⟩ ?_
              clear f0 f3 f28 f31 f37 f42 ht' t'
              rintro t H n ⟨f0, f3, f28, f31, f43⟩
              refine Stk.runD 2 (fun t H n => t 0 = .ssl (encs c97 a0) a0.length false ∧ t 3 = .sc (.int .i64 v2) ∧ t 28 = .sc (.bool false) ∧ t 45 = .sc (.bool (!x12))) (fun J hJ => ?_) ?_
              · simp [-splice, f0, f3, f28, f31, f43]
                exact hJ _ _ _ ⟨by simp [f0], by simp [f3], by simp [f28], by simp [-splice, f0, f3, f28, f31, f43]⟩
              clear f0 f3 f28 f31 f43
              rintro t H n ⟨f0, f3, f28, f45⟩
              refine Stk.onD ?_
              exact Stk.ln 0 (by decide) (hJ4 _ _ _ ⟨(!x12), h, f0, f3, f28, f45⟩)
            · rw [hb4] at f31
              replace h := cF hb4 h
              refine Stk.runD 14 (fun t H n => t 0 = .ssl (encs c97 a0) a0.length false ∧ t 3 = .sc (.int .i64 v2) ∧ t 28 = .sc (.bool false) ∧ t 45 = .sc (.bool false)) (fun J hJ => ?_) ?_
              · simp [-splice, f0, f3, f28, f31]
                exact hJ _ _ _ ⟨by simp [f0], by simp [f3], by simp [f28], by simp [-splice, f0, f3, f28, f31]⟩
              clear f0 f3 f28 f31
              rintro t H n ⟨f0, f3, f28, f45⟩
              refine Stk.onD ?_
              exact Stk.ln 0 (by decide) (hJ4 _ _ _ ⟨false, h, f0, f3, f28, f45⟩)
          clear h f0 f3 f28 f31
          rintro t H n ⟨v9, h, f0, f3, f28, f45⟩
          subst hK4
          refine Stk.runD 1 (fun t H n => t 0 = .ssl (encs c97 a0) a0.length false ∧ t 3 = .sc (.int .i64 v2) ∧ t 46 = .sc (.bool v9)) (fun J hJ => ?_) ?_
          · simp [-splice, f0, f3, f28, f45]
            exact hJ _ _ _ ⟨by simp [f0], by simp [f3], by simp [-splice, f0, f3, f28, f45]⟩
          clear f0 f3 f28 f45
          rintro t H n ⟨f0, f3, f46⟩
          refine Stk.onD ?_
          exact Stk.ln 0 (by decide) (hJ3 _ _ _ ⟨v9, h, f0, f3, f46⟩)
      clear h f0 f3 f28
      rintro t H n ⟨v8, h, f0, f3, f46⟩
      subst hK3
      refine Stk.onD ?_
      refine Stk.cond v8 (by exact f46) (fun hb13 => ?_) (fun hb13 => ?_)
      · have h := cT hb13 h
        refine Stk.sq ?_
        refine Stk.rg ?_
        refine Stk.run 1 (fun t H n => t 2 = .sc (.bool false)) (fun J hJ => ?_) ?_
        · simp [-splice, f0, f3, f46]
          exact hJ _ _ _ (by simp [-splice, f0, f3, f46])
        clear f0 f3 f46
        rintro t H n f2
        refine Stk.on ?_
        refine Stk.rt ?_
        have hq := Option.some.inj h; subst hq
        exact (hr _ _ _ (.sc (.bool false)) ([]) (by simp [f2]) (.inr (.inr (.free (rfl))))).1
      · have h := cF hb13 h
        refine Stk.sk ?_
        refine Stk.sq ?_
        refine Stk.rg ?_
        refine Stk.run 1 (fun t H n => t 0 = .ssl (encs c97 a0) a0.length false ∧ t 3 = .sc (.int .i64 v2) ∧ t 4 = .sc (.int .i64 0)) (fun J hJ => ?_) ?_
        · simp [-splice, f0, f3, f46]
          exact hJ _ _ _ ⟨by simp [f0], by simp [f3], by simp [-splice, f0, f3, f46]⟩
        clear f0 f3 f46
        rintro t H n ⟨f0, f3, f4⟩
        refine Stk.on ?_
        obtain ⟨K5, hK5, h⟩ := jnd h
        refine Stk.jn (fun t H n => K5 () = some r ∧ t 0 = .ssl (encs c97 a0) a0.length false ∧ t 3 = .sc (.int .i64 v2)) trivial (fun J5 hJ5 => ?_) ?_
        · skip
          refine Stk.bk ?_
          refine Stk.lo (fun μ t H n => ∃ v14 : Int, R13_Fit_L1 F a0 v2 K5 μ v14 = some r ∧ t 0 = .ssl (encs c97 a0) a0.length false ∧ t 3 = .sc (.int .i64 v2) ∧ t 4 = .sc (.int .i64 v14)) F ⟨0, h, f0, f3, f4⟩ ?_
          clear h f0 f3 f4
          rintro J6 hJ6 μ t H n ⟨v14, h, f0, f3, f4⟩
          cases μ with
          | zero => exact absurd h (by simp [R13_Fit_L1])
          | succ μ =>
          rw [R13_Fit_L1] at h
          refine Stk.sq ?_
          refine Stk.sq ?_
          refine Stk.rg ?_
          refine Stk.run 2 (fun t H n => t 0 = .ssl (encs c97 a0) a0.length false ∧ t 3 = .sc (.int .i64 v2) ∧ t 4 = .sc (.int .i64 v14) ∧ t 48 = .sc (.bool (decide (v14 < 12)))) (fun J hJ => ?_) ?_
          · simp [-splice, f0, f3, f4]
            exact hJ _ _ _ ⟨by simp [f0], by simp [f3], by simp [f4], by simp [-splice, f0, f3, f4]⟩
          clear f0 f3 f4
          rintro t H n ⟨f0, f3, f4, f48⟩
          refine Stk.on ?_
          refine Stk.cond (decide (v14 < 12)) (by exact f48) (fun hb16 => ?_) (fun hb16 => ?_)
          · have h := cT hb16 h
            refine Stk.sk ?_
            refine Stk.sq ?_
            refine Stk.bk ?_
            refine Stk.sq ?_
            refine Stk.rg ?_
            obtain ⟨x17, hx17, h⟩ := bnd h
            obtain ⟨i0x17, i1x17, i2x17, _⟩ := idx_ok hx17
            obtain ⟨x18, hx18, h⟩ := bnd h
            obtain ⟨i0x18, i1x18, i2x18, _⟩ := idx_ok hx18
            have i3x18 : v14 < 12 := by rw [x17.Exps.2] at i1x18; exact i1x18
            have i4x18 : v14.toNat < 12 := by omega
            have qx18 : partOf T.T 5 (encs c97 a0) (v2.toNat * 13 + v14.toNat) = some (.sc (.int .u8 x18)) := by
              have e1 := part_elem0 (e := c97) (z := 13) (T := T.T) (ty := 5) T.t5 (by decide) (by decide) hx17 v14.toNat (by show _ + 1 ≤ _; omega)
              have e2 : partOf T.T 5 (c97 x17) v14.toNat = some (.sc (.int .u8 x18)) := by
                rw [c97]
                rw [part_head T.t5 (by decide) (by rw [Enc.len (e := c95)]; show _ + 1 ≤ _; omega)]
                rw [c95]
                have e0 := part_elem0 (e := c5) (z := 1) (T := T.T) (ty := 5) T.t5 (by decide) (by decide) hx18 0 (by decide)
                (try simp only [Nat.mul_one, Nat.add_zero] at e0)
                exact e0.trans rfl
              rw [e2] at e1
              simpa [Nat.add_assoc] using e1
            refine Stk.run 8 (fun t H n => t 0 = .ssl (encs c97 a0) a0.length false ∧ t 3 = .sc (.int .i64 v2) ∧ t 4 = .sc (.int .i64 v14) ∧ t 58 = .sc (.bool (decide (6 < x18)))) (fun J hJ => ?_) ?_
            · simp [-splice, f0, f3, f4, f48, i0x17, i1x17, i0x18, i1x18, i3x18, i4x18, pd5, qx18]
              exact hJ _ _ _ ⟨by simp [f0], by simp [f3], by simp [f4], by simp [-splice, f0, f3, f4, f48, i0x17, i1x17, i0x18, i1x18, i3x18, i4x18, pd5, qx18]⟩
            clear f0 f3 f4 f48
            rintro t H n ⟨f0, f3, f4, f58⟩
            refine Stk.on ?_
            refine Stk.cond (decide (6 < x18)) (by exact f58) (fun hb19 => ?_) (fun hb19 => ?_)
            · have h := cT hb19 h
              refine Stk.sq ?_
              refine Stk.rg ?_
              refine Stk.run 1 (fun t H n => t 2 = .sc (.bool false)) (fun J hJ => ?_) ?_
              · simp [-splice, f0, f3, f4, f58]
                exact hJ _ _ _ (by simp [-splice, f0, f3, f4, f58])
              clear f0 f3 f4 f58
              rintro t H n f2
              refine Stk.on ?_
              refine Stk.rt ?_
              have hq := Option.some.inj h; subst hq
              exact (hr _ _ _ (.sc (.bool false)) ([]) (by simp [f2]) (.inr (.inr (.free (rfl))))).1
            · have h := cF hb19 h
              refine Stk.sk ?_
              refine Stk.bn ?_
              refine Stk.rg ?_
              refine Stk.run 3 (fun t H n => t 0 = .ssl (encs c97 a0) a0.length false ∧ t 3 = .sc (.int .i64 v2) ∧ t 4 = .sc (.int .i64 (IntKind.i64.wrap (v14 + 1)))) (fun J hJ => ?_) ?_
              · simp [-splice, f0, f3, f4, f58]
                exact hJ _ _ _ ⟨by simp [f0], by simp [f3], by simp [-splice, f0, f3, f4, f58]⟩
              clear f0 f3 f4 f58
              rintro t H n ⟨f0, f3, f4⟩
              refine Stk.on ?_
              exact Stk.ln μ (Nat.lt_succ_self _) (hJ6 _ _ _ _ ⟨(IntKind.i64.wrap (v14 + 1)), h, f0, f3, f4⟩)
          · have h := cF hb16 h
            refine Stk.ex rfl ?_
            exact Stk.ln 0 (by decide) (hJ5 _ _ _ ⟨h, f0, f3⟩)
        clear h f0 f3 f4
        rintro t H n ⟨h, f0, f3⟩
        subst hK5
        refine Stk.bn ?_
        refine Stk.rg ?_
        refine Stk.run 3 (fun t H n => t 0 = .ssl (encs c97 a0) a0.length false ∧ t 3 = .sc (.int .i64 (IntKind.i64.wrap (v2 + 1)))) (fun J hJ => ?_) ?_
        · simp [-splice, f0, f3]
          exact hJ _ _ _ ⟨by simp [f0], by simp [-splice, f0, f3]⟩
        clear f0 f3
        rintro t H n ⟨f0, f3⟩
        refine Stk.on ?_
        exact Stk.ln μ (Nat.lt_succ_self _) (hJ1 _ _ _ _ ⟨(IntKind.i64.wrap (v2 + 1)), h, f0, f3⟩)
    · have h := cF hb4 h
      refine Stk.ex rfl ?_
      refine Stk.sq ?_
      refine Stk.rg ?_
      refine Stk.run 1 (fun t H n => t 2 = .sc (.bool true)) (fun J hJ => ?_) ?_
      · simp [-splice, f0, f3, f11]
        exact hJ _ _ _ (by simp [-splice, f0, f3, f11])
      clear f0 f3 f11
      rintro t H n f2
      refine Stk.on ?_
      refine Stk.rt ?_
      have hq := Option.some.inj h; subst hq
      exact (hr _ _ _ (.sc (.bool true)) ([]) (by simp [f2]) (.inr (.inr (.free (rfl))))).1
theorem ok_L13_few (F : Nat) (a0 : (List (List api_Term))) (r : Bool) (h : L13_few F a0 = some r) : RunF Try.prog T.T 18 [.ssl (encs c37 a0) a0.length false] (.sc (.bool r)) := by
  rw [L13_few] at h
  refine RunF.z Try.func18 rfl rfl rfl rfl rfl (fun C hr => ?_)
  refine Stk.gen (fun t H n => t 0 = .ssl (encs c37 a0) a0.length false) (by simp) ?_
  rintro t H n f0
  refine Stk.sq ?_
  refine Stk.rg ?_
  refine Stk.run 1 (fun t H n => t 0 = .ssl (encs c37 a0) a0.length false) (fun J hJ => ?_) ?_
  · simp [-splice, f0]
    exact hJ _ _ _ (by simp [f0])
  clear f0
  rintro t H n f0
  refine Stk.on ?_
  refine Stk.sq ?_
  refine Stk.rg ?_
  refine Stk.run 1 (fun t H n => t 0 = .ssl (encs c37 a0) a0.length false ∧ t 3 = .sc (.int .i64 0)) (fun J hJ => ?_) ?_
  · simp [-splice, f0]
    exact hJ _ _ _ ⟨by simp [f0], by simp [-splice, f0]⟩
  clear f0
  rintro t H n ⟨f0, f3⟩
  refine Stk.on ?_
  refine Stk.sq ?_
  refine Stk.sq ?_
  refine Stk.rg ?_
  refine Stk.run 1 (fun t H n => t 0 = .ssl (encs c37 a0) a0.length false ∧ t 3 = .sc (.int .i64 0) ∧ t 4 = .sc (.int .i64 0)) (fun J hJ => ?_) ?_
  · simp [-splice, f0, f3]
    exact hJ _ _ _ ⟨by simp [f0], by simp [f3], by simp [-splice, f0, f3]⟩
  clear f0 f3
  rintro t H n ⟨f0, f3, f4⟩
  refine Stk.on ?_
  refine Stk.bk ?_
  refine Stk.lo (fun μ t H n => ∃ v1 : Int, ∃ v2 : Int, L13_few_L0 F a0 μ v1 v2 = some r ∧ t 0 = .ssl (encs c37 a0) a0.length false ∧ t 3 = .sc (.int .i64 v1) ∧ t 4 = .sc (.int .i64 v2)) F ⟨0, 0, h, f0, f3, f4⟩ ?_
  clear h f0 f3 f4
  rintro J1 hJ1 μ t H n ⟨v1, v2, h, f0, f3, f4⟩
  cases μ with
  | zero => exact absurd h (by simp [L13_few_L0])
  | succ μ =>
  rw [L13_few_L0] at h
  refine Stk.sq ?_
  refine Stk.sq ?_
  refine Stk.rg ?_
  refine Stk.run 4 (fun t H n => t 0 = .ssl (encs c37 a0) a0.length false ∧ t 3 = .sc (.int .i64 v1) ∧ t 4 = .sc (.int .i64 v2) ∧ t 8 = .sc (.bool (decide (v2 < (a0.length : Int))))) (fun J hJ => ?_) ?_
  · simp [-splice, f0, f3, f4]
    exact hJ _ _ _ ⟨by simp [f0], by simp [f3], by simp [f4], by simp [-splice, f0, f3, f4]⟩
  clear f0 f3 f4
  rintro t H n ⟨f0, f3, f4, f8⟩
  refine Stk.on ?_
  refine Stk.cond (decide (v2 < (a0.length : Int))) (by exact f8) (fun hb5 => ?_) (fun hb5 => ?_)
  · have h := cT hb5 h
    refine Stk.sk ?_
    refine Stk.sq ?_
    refine Stk.bk ?_
    refine Stk.sq ?_
    refine Stk.rg ?_
    obtain ⟨x6, hx6, h⟩ := bnd h
    obtain ⟨i0x6, i1x6, i2x6, _⟩ := idx_ok hx6
    have ex6_0_37 : partOf T.T 37 (encs c37 a0) (v2.toNat) = some (.ssl (encs c97 x6) x6.length false) := by
        have e0 := part_elem0 (e := c37) (z := 1) (T := T.T) (ty := 37) T.t37 (by decide) (by decide) hx6 0 (by decide)
        (try simp only [Nat.mul_one, Nat.add_zero] at e0)
        exact e0.trans rfl
    refine Stk.run 8 (fun t H n => t 0 = .ssl (encs c37 a0) a0.length false ∧ t 3 = .sc (.int .i64 (IntKind.i64.wrap (v1 + (x6.length : Int)))) ∧ t 4 = .sc (.int .i64 v2)) (fun J hJ => ?_) ?_
    · simp [-splice, f0, f3, f4, f8, i0x6, i1x6, pd37, ex6_0_37]
      exact hJ _ _ _ ⟨by simp [f0], by simp [-splice, f0, f3, f4, f8, i0x6, i1x6, pd37, ex6_0_37], by simp [f4]⟩
    clear f0 f3 f4 f8
    rintro t H n ⟨f0, f3, f4⟩
    refine Stk.on ?_
    refine Stk.sq ?_
    refine Stk.rg ?_
    obtain ⟨x7, hx7, h⟩ := bnd h
    obtain ⟨i0x7, i1x7, i2x7, _⟩ := idx_ok hx7
    have ex7_0_37 : partOf T.T 37 (encs c37 a0) (v2.toNat) = some (.ssl (encs c97 x7) x7.length false) := by
        have e0 := part_elem0 (e := c37) (z := 1) (T := T.T) (ty := 37) T.t37 (by decide) (by decide) hx7 0 (by decide)
        (try simp only [Nat.mul_one, Nat.add_zero] at e0)
        exact e0.trans rfl
    refine Stk.run 4 (fun t H n => t 0 = .ssl (encs c37 a0) a0.length false ∧ t 3 = .sc (.int .i64 (IntKind.i64.wrap (v1 + (x6.length : Int)))) ∧ t 4 = .sc (.int .i64 v2) ∧ t 21 = .ssl (encs c97 x7) x7.length false) (fun J hJ => ?_) ?_
    · simp [-splice, f0, f3, f4, i0x7, i1x7, pd37, ex7_0_37]
      exact hJ _ _ _ ⟨by simp [f0], by simp [f3], by simp [f4], by simp [-splice, f0, f3, f4, i0x7, i1x7, pd37, ex7_0_37]⟩
    clear f0 f3 f4
    rintro t H n ⟨f0, f3, f4, f21⟩
    obtain ⟨x8, hx8, h⟩ := bnd h
    refine Stk.cv (g := 23) (args := [.ssl (encs c97 x7) x7.length false]) (args' := [.ssl (encs c97 x7) x7.length false]) (v := .sc (.bool x8)) [] (ok_R13_Fit F _ _ hx8) (by simp [f0, f3, f4, f21]) rfl rfl (by simp [f0, f3, f4, f21]) (.cons (.free (freeL_encs fr97 _)) (.nil)) (.inl ⟨rfl, rfl⟩) (fun t' ht' => ?_)
    refine Stk.gen (fun t H n => t 0 = .ssl (encs c37 a0) a0.length false ∧ t 3 = .sc (.int .i64 (IntKind.i64.wrap (v1 + (x6.length : Int)))) ∧ t 4 = .sc (.int .i64 v2) ∧ t 22 = .sc (.bool x8)) ⟨by simp [ht', f0], by simp [ht', f3], by simp [ht', f4], by simp [ht']⟩ ?_
    clear f0 f3 f4 f21 ht' t'
    rintro t H n ⟨f0, f3, f4, f22⟩
    refine Stk.run 2 (fun t H n => t 0 = .ssl (encs c37 a0) a0.length false ∧ t 3 = .sc (.int .i64 (IntKind.i64.wrap (v1 + (x6.length : Int)))) ∧ t 4 = .sc (.int .i64 v2) ∧ t 24 = .sc (.bool (!x8))) (fun J hJ => ?_) ?_
    · simp [-splice, f0, f3, f4, f22]
      exact hJ _ _ _ ⟨by simp [f0], by simp [f3], by simp [f4], by simp [-splice, f0, f3, f4, f22]⟩
    clear f0 f3 f4 f22
    rintro t H n ⟨f0, f3, f4, f24⟩
    refine Stk.jo 3 (fun t H n => t 0 = .ssl (encs c37 a0) a0.length false ∧ t 3 = .sc (.int .i64 (IntKind.i64.wrap (v1 + (x6.length : Int)))) ∧ t 4 = .sc (.int .i64 v2) ∧ t 27 = .sc (.bool ((!x8) || (decide (30 < (IntKind.i64.wrap (v1 + (x6.length : Int)))))))) (fun J2 hJ2 => ?_) ?_
    · rcases Bool.eq_false_or_eq_true (!x8) with hb2 | hb2
      · rw [hb2] at f24
        refine Stk.run 3 (fun t H n => t 0 = .ssl (encs c37 a0) a0.length false ∧ t 3 = .sc (.int .i64 (IntKind.i64.wrap (v1 + (x6.length : Int)))) ∧ t 4 = .sc (.int .i64 v2) ∧ t 27 = .sc (.bool true)) (fun J hJ => ?_) ?_
        · simp [-splice, f0, f3, f4, f24]
          exact hJ _ _ _ ⟨by simp [f0], by simp [f3], by simp [f4], by simp [-splice, f0, f3, f4, f24]⟩
        clear f0 f3 f4 f24
        rintro t H n ⟨f0, f3, f4, f27⟩
        refine Stk.on ?_
        exact Stk.ln 0 (by decide) (hJ2 _ _ _ ⟨f0, f3, f4, f27.trans (congrArg (fun q => AV.sc (.bool q)) (by rw [hb2]; rfl))⟩)
      · rw [hb2] at f24
        refine Stk.run 3 (fun t H n => t 0 = .ssl (encs c37 a0) a0.length false ∧ t 3 = .sc (.int .i64 (IntKind.i64.wrap (v1 + (x6.length : Int)))) ∧ t 4 = .sc (.int .i64 v2) ∧ t 27 = .sc (.bool (decide (30 < (IntKind.i64.wrap (v1 + (x6.length : Int))))))) (fun J hJ => ?_) ?_
        · simp [-splice, f0, f3, f4, f24]
          exact hJ _ _ _ ⟨by simp [f0], by simp [f3], by simp [f4], by simp [-splice, f0, f3, f4, f24]⟩
        clear f0 f3 f4 f24
        rintro t H n ⟨f0, f3, f4, f27⟩
        refine Stk.on ?_
        exact Stk.ln 0 (by decide) (hJ2 _ _ _ ⟨f0, f3, f4, f27.trans (congrArg (fun q => AV.sc (.bool q)) (by rw [hb2]; rfl))⟩)
    clear f0 f3 f4 f24
    rintro t H n ⟨f0, f3, f4, f27⟩
    refine Stk.on ?_
    refine Stk.cond ((!x8) || (decide (30 < (IntKind.i64.wrap (v1 + (x6.length : Int)))))) (by exact f27) (fun hb9 => ?_) (fun hb9 => ?_)
    · have h := cT hb9 h
      refine Stk.sq ?_
      refine Stk.rg ?_
      refine Stk.run 1 (fun t H n => t 2 = .sc (.bool false)) (fun J hJ => ?_) ?_
      · simp [-splice, f0, f3, f4, f27]
        exact hJ _ _ _ (by simp [-splice, f0, f3, f4, f27])
      clear f0 f3 f4 f27
      rintro t H n f2
      refine Stk.on ?_
      refine Stk.rt ?_
      have hq := Option.some.inj h; subst hq
      exact (hr _ _ _ (.sc (.bool false)) ([]) (by simp [f2]) (.inr (.inr (.free (rfl))))).1
    · have h := cF hb9 h
      refine Stk.sk ?_
      refine Stk.bn ?_
      refine Stk.rg ?_
      refine Stk.run 3 (fun t H n => t 0 = .ssl (encs c37 a0) a0.length false ∧ t 3 = .sc (.int .i64 (IntKind.i64.wrap (v1 + (x6.length : Int)))) ∧ t 4 = .sc (.int .i64 (IntKind.i64.wrap (v2 + 1)))) (fun J hJ => ?_) ?_
      · simp [-splice, f0, f3, f4, f27]
        exact hJ _ _ _ ⟨by simp [f0], by simp [f3], by simp [-splice, f0, f3, f4, f27]⟩
      clear f0 f3 f4 f27
      rintro t H n ⟨f0, f3, f4⟩
      refine Stk.on ?_
      exact Stk.ln μ (Nat.lt_succ_self _) (hJ1 _ _ _ _ ⟨(IntKind.i64.wrap (v1 + (x6.length : Int))), (IntKind.i64.wrap (v2 + 1)), h, f0, f3, f4⟩)
  · have h := cF hb5 h
    refine Stk.ex rfl ?_
    refine Stk.sq ?_
    refine Stk.rg ?_
    refine Stk.run 4 (fun t H n => t 2 = .sc (.bool (decide ((a0.length : Int) ≤ 20)))) (fun J hJ => ?_) ?_
    · simp [-splice, f0, f3, f4, f8]
      exact hJ _ _ _ (by simp [-splice, f0, f3, f4, f8])
    clear f0 f3 f4 f8
    rintro t H n f2
    refine Stk.on ?_
    refine Stk.rt ?_
    have hq := Option.some.inj h; subst hq
    exact (hr _ _ _ (.sc (.bool (decide ((a0.length : Int) ≤ 20)))) ([]) (by simp [f2]) (.inr (.inr (.free (rfl))))).1
theorem ok_R13_Same (F : Nat) (a0 : (List api_Term)) (a1 : (List api_Term)) (r : Bool) (h : R13_Same F a0 a1 = some r) : RunF Try.prog T.T 22 [.ssl (encs c97 a0) a0.length false, .ssl (encs c97 a1) a1.length false] (.sc (.bool r)) := by
  rw [R13_Same] at h
  refine RunF.z Try.func22 rfl rfl rfl rfl rfl (fun C hr => ?_)
  refine Stk.gen (fun t H n => t 0 = .ssl (encs c97 a0) a0.length false ∧ t 1 = .ssl (encs c97 a1) a1.length false) ⟨by simp, by simp⟩ ?_
  rintro t H n ⟨f0, f1⟩
  refine Stk.sq ?_
  refine Stk.rg ?_
  refine Stk.run 1 (fun t H n => t 0 = .ssl (encs c97 a0) a0.length false ∧ t 1 = .ssl (encs c97 a1) a1.length false) (fun J hJ => ?_) ?_
  · simp [-splice, f0, f1]
    exact hJ _ _ _ ⟨by simp [f0], by simp [f1]⟩
  clear f0 f1
  rintro t H n ⟨f0, f1⟩
  refine Stk.on ?_
  refine Stk.sq ?_
  refine Stk.sq ?_
  refine Stk.rg ?_
  refine Stk.run 5 (fun t H n => t 0 = .ssl (encs c97 a0) a0.length false ∧ t 1 = .ssl (encs c97 a1) a1.length false ∧ t 10 = .sc (.bool ((a0.length : Int) != (a1.length : Int)))) (fun J hJ => ?_) ?_
  · simp [-splice, f0, f1]
    exact hJ _ _ _ ⟨by simp [f0], by simp [f1], by simp [-splice, f0, f1]⟩
  clear f0 f1
  rintro t H n ⟨f0, f1, f10⟩
  refine Stk.on ?_
  refine Stk.cond ((a0.length : Int) != (a1.length : Int)) (by exact f10) (fun hb1 => ?_) (fun hb1 => ?_)
  · have h := cT hb1 h
    refine Stk.sq ?_
    refine Stk.rg ?_
    refine Stk.run 1 (fun t H n => t 4 = .sc (.bool false)) (fun J hJ => ?_) ?_
    · simp [-splice, f0, f1, f10]
      exact hJ _ _ _ (by simp [-splice, f0, f1, f10])
    clear f0 f1 f10
    rintro t H n f4
    refine Stk.on ?_
    refine Stk.rt ?_
    have hq := Option.some.inj h; subst hq
    exact (hr _ _ _ (.sc (.bool false)) ([]) (by simp [f4]) (.inr (.inr (.free (rfl))))).1
  · have h := cF hb1 h
    refine Stk.sk ?_
    refine Stk.sq ?_
    refine Stk.sq ?_
    refine Stk.rg ?_
    refine Stk.run 1 (fun t H n => t 0 = .ssl (encs c97 a0) a0.length false ∧ t 1 = .ssl (encs c97 a1) a1.length false ∧ t 5 = .sc (.int .i64 0)) (fun J hJ => ?_) ?_
    · simp [-splice, f0, f1, f10]
      exact hJ _ _ _ ⟨by simp [f0], by simp [f1], by simp [-splice, f0, f1, f10]⟩
    clear f0 f1 f10
    rintro t H n ⟨f0, f1, f5⟩
    refine Stk.on ?_
    refine Stk.bk ?_
    refine Stk.lo (fun μ t H n => ∃ v2 : Int, R13_Same_L0 F a0 a1 μ v2 = some r ∧ t 0 = .ssl (encs c97 a0) a0.length false ∧ t 1 = .ssl (encs c97 a1) a1.length false ∧ t 5 = .sc (.int .i64 v2)) F ⟨0, h, f0, f1, f5⟩ ?_
    clear h f0 f1 f5
    rintro J1 hJ1 μ t H n ⟨v2, h, f0, f1, f5⟩
    cases μ with
    | zero => exact absurd h (by simp [R13_Same_L0])
    | succ μ =>
    rw [R13_Same_L0] at h
    refine Stk.sq ?_
    refine Stk.sq ?_
    refine Stk.rg ?_
    refine Stk.run 4 (fun t H n => t 0 = .ssl (encs c97 a0) a0.length false ∧ t 1 = .ssl (encs c97 a1) a1.length false ∧ t 5 = .sc (.int .i64 v2) ∧ t 14 = .sc (.bool (decide (v2 < (a0.length : Int))))) (fun J hJ => ?_) ?_
    · simp [-splice, f0, f1, f5]
      exact hJ _ _ _ ⟨by simp [f0], by simp [f1], by simp [f5], by simp [-splice, f0, f1, f5]⟩
    clear f0 f1 f5
    rintro t H n ⟨f0, f1, f5, f14⟩
    refine Stk.on ?_
    refine Stk.cond (decide (v2 < (a0.length : Int))) (by exact f14) (fun hb4 => ?_) (fun hb4 => ?_)
    · have h := cT hb4 h
      refine Stk.sk ?_
      refine Stk.sq ?_
      refine Stk.bk ?_
      refine Stk.sq ?_
      obtain ⟨n0, hn0⟩ : ∃ m, m = n := ⟨n, rfl⟩
      have ln0 : n0 ≤ n := Nat.le_of_eq hn0
      refine Stk.rgD [.rd [], .rd [], .rd [], .rd [], .rd [], .rd [], .rd [], .rd [], .rd []] none (by kernel_rfl) (by rfl) rfl (by simp [below]) rfl ?_
      obtain ⟨x5, hx5, h⟩ := bnd h
      obtain ⟨i0x5, i1x5, i2x5, _⟩ := idx_ok hx5
      have ex5_0_97 : partOf T.T 97 (encs c97 a0) (v2.toNat * 13) = some (.agg (c97 x5)) := by
          have e0 := part_elem0 (e := c97) (z := 13) (T := T.T) (ty := 97) T.t97 (by decide) (by decide) hx5 0 (by decide)
          (try simp only [Nat.mul_one, Nat.add_zero] at e0)
          exact e0.trans (ld_97_0_97 _)
      obtain ⟨x6, hx6, h⟩ := bnd h
      obtain ⟨i0x6, i1x6, i2x6, _⟩ := idx_ok hx6
      have ex6_0_97 : partOf T.T 97 (encs c97 a1) (v2.toNat * 13) = some (.agg (c97 x6)) := by
          have e0 := part_elem0 (e := c97) (z := 13) (T := T.T) (ty := 97) T.t97 (by decide) (by decide) hx6 0 (by decide)
          (try simp only [Nat.mul_one, Nat.add_zero] at e0)
          exact e0.trans (ld_97_0_97 _)
      refine Stk.runD 9 (fun t H n => t 0 = .ssl (encs c97 a0) a0.length false ∧ t 1 = .ssl (encs c97 a1) a1.length false ∧ t 5 = .sc (.int .i64 v2) ∧ t 25 = .sc (.bool (!((x5.Exps.1 == x6.Exps.1) && ((x5.Coef == x6.Coef))))) ∧ n0 ≤ n) (fun J hJ => ?_) ?_
      · simp [-splice, f0, f1, f5, f14, i0x5, i1x5, pd97, ex5_0_97, i0x6, i1x6, ex6_0_97, eqM97]
        exact hJ _ _ _ ⟨by simp [f0], by simp [f1], by simp [f5], by simp [-splice, f0, f1, f5, f14, i0x5, i1x5, pd97, ex5_0_97, i0x6, i1x6, ex6_0_97, eqM97], ln0⟩
      clear f0 f1 f5 f14 ln0
      rintro t H n ⟨f0, f1, f5, f25, ln0⟩
      refine Stk.onD ?_
      refine Stk.cond (!((x5.Exps.1 == x6.Exps.1) && ((x5.Coef == x6.Coef)))) (by exact f25) (fun hb7 => ?_) (fun hb7 => ?_)
      · have h := cT hb7 h
        refine Stk.sq ?_
        refine Stk.rg ?_
        refine Stk.run 1 (fun t H n => t 4 = .sc (.bool false)) (fun J hJ => ?_) ?_
        · simp [-splice, f0, f1, f5, f25]
          exact hJ _ _ _ (by simp [-splice, f0, f1, f5, f25])
        clear f0 f1 f5 f25 ln0
        rintro t H n f4
        refine Stk.on ?_
        refine Stk.rt ?_
        have hq := Option.some.inj h; subst hq
        exact (hr _ _ _ (.sc (.bool false)) ([]) (by simp [f4]) (.inr (.inr (.free (rfl))))).1
      · have h := cF hb7 h
        refine Stk.sk ?_
        refine Stk.bn ?_
        refine Stk.rg ?_
        refine Stk.run 3 (fun t H n => t 0 = .ssl (encs c97 a0) a0.length false ∧ t 1 = .ssl (encs c97 a1) a1.length false ∧ t 5 = .sc (.int .i64 (IntKind.i64.wrap (v2 + 1)))) (fun J hJ => ?_) ?_
        · simp [-splice, f0, f1, f5, f25]
          exact hJ _ _ _ ⟨by simp [f0], by simp [f1], by simp [-splice, f0, f1, f5, f25]⟩
        clear f0 f1 f5 f25 ln0
        rintro t H n ⟨f0, f1, f5⟩
        refine Stk.on ?_
        exact Stk.ln μ (Nat.lt_succ_self _) (hJ1 _ _ _ _ ⟨(IntKind.i64.wrap (v2 + 1)), h, f0, f1, f5⟩)
    · have h := cF hb4 h
      refine Stk.ex rfl ?_
      refine Stk.sq ?_
      refine Stk.rg ?_
      refine Stk.run 1 (fun t H n => t 4 = .sc (.bool true)) (fun J hJ => ?_) ?_
      · simp [-splice, f0, f1, f5, f14]
        exact hJ _ _ _ (by simp [-splice, f0, f1, f5, f14])
      clear f0 f1 f5 f14
      rintro t H n f4
      refine Stk.on ?_
      refine Stk.rt ?_
      have hq := Option.some.inj h; subst hq
      exact (hr _ _ _ (.sc (.bool true)) ([]) (by simp [f4]) (.inr (.inr (.free (rfl))))).1
end Go.Proofs.Ytfbkgjmpadknfaa.M
