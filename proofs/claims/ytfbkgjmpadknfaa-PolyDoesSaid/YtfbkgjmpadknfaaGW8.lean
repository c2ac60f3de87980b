/-
  The functions come to them.
-/
import Derived.Test.YtfbkgjmpadknfaaGM
import Derived.Test.YtfbkgjmpadknfaaGW0
import Derived.Test.YtfbkgjmpadknfaaGW1
import Derived.Test.YtfbkgjmpadknfaaGW2
namespace Go.Proofs.Ytfbkgjmpadknfaa.M
open Go.Proofs.YtfbkgjmpadknfaaW.Ah Go.Proofs.Ytfbkgjmpadknfaa
set_option linter.unusedVariables false
set_option linter.unusedSimpArgs false
set_option maxRecDepth 8000
attribute [local simp] T.t2 T.t3 T.t5 T.t23 T.t37 T.t39 T.t95 T.t97 List.range List.range.loop
attribute [-simp] appendAV fillAV
theorem ok_poly_Put (F : Nat) (a0 : (List api_Term)) (a1 : (List (List api_Term))) (r : ((List api_Term) × Int)) (h : poly_Put F a0 a1 = some r) : RunF Try.prog T.T 26 [.ssl (encs c97 a0) a0.length false, .ssl (encs c37 a1) a1.length false] (.tup [.ssl (encs c97 r.1) r.1.length false, .sc (.int .i64 r.2)]) := by
  rw [poly_Put] at h
  refine RunF.z Try.func26 rfl rfl rfl rfl rfl (fun C hr => ?_)
  refine Stk.gen (fun t H n => t 0 = .ssl (encs c97 a0) a0.length false ∧ t 1 = .ssl (encs c37 a1) a1.length false) ⟨by simp, by simp⟩ ?_
  rintro t H n ⟨f0, f1⟩
  refine Stk.sq ?_
  refine Stk.rg ?_
  refine Stk.run 1 (fun t H n => t 0 = .ssl (encs c97 a0) a0.length false ∧ t 1 = .ssl (encs c37 a1) a1.length false) (fun J hJ => ?_) ?_
  · simp [-splice, f0, f1]
    exact hJ _ _ _ ⟨by simp [f0], by simp [f1]⟩
  clear f0 f1
  rintro t H n ⟨f0, f1⟩
  refine Stk.run 1 (fun t H n => t 0 = .ssl (encs c97 a0) a0.length false ∧ t 1 = .ssl (encs c37 a1) a1.length false) (fun J hJ => ?_) ?_
  · simp [-splice, f0, f1]
    exact hJ _ _ _ ⟨by simp [f0], by simp [f1]⟩
  clear f0 f1
  rintro t H n ⟨f0, f1⟩
  refine Stk.on ?_
  refine Stk.sq ?_
  refine Stk.rg ?_
  refine Stk.run 1 (fun t H n => t 0 = .ssl (encs c97 a0) a0.length false ∧ t 1 = .ssl (encs c37 a1) a1.length false ∧ t 6 = .sc (.slice none 0 0)) (fun J hJ => ?_) ?_
  · simp [-splice, f0, f1]
    exact hJ _ _ _ ⟨by simp [f0], by simp [f1], by simp [-splice, f0, f1]⟩
  clear f0 f1
  rintro t H n ⟨f0, f1, f6⟩
  refine Stk.wk trivial 6 (.ssl (encs c97 ([] : (List api_Term))) ([] : (List api_Term)).length false) (by rw [f6]; exact .inr (.inr .nilS)) (fun t' ht' => ?_)
  refine Stk.gen (fun t H n => t 0 = .ssl (encs c97 a0) a0.length false ∧ t 1 = .ssl (encs c37 a1) a1.length false ∧ t 6 = .ssl (encs c97 ([] : (List api_Term))) ([] : (List api_Term)).length false) ⟨by simp [ht', f0], by simp [ht', f1], by simp [ht', f6]⟩ ?_
  clear f0 f1 f6 ht' t'
  rintro t H n ⟨f0, f1, f6⟩
  refine Stk.on ?_
  refine Stk.sq ?_
  refine Stk.sq ?_
  refine Stk.rg ?_
  refine Stk.run 3 (fun t H n => t 1 = .ssl (encs c37 a1) a1.length false ∧ t 6 = .ssl (encs c97 ([] : (List api_Term))) ([] : (List api_Term)).length false ∧ t 14 = .ssl (encs c97 a0) a0.length false ∧ t 15 = .sc (.int .i64 (a0.length : Int)) ∧ t 16 = .sc (.int .i64 0)) (fun J hJ => ?_) ?_
  · simp [-splice, f0, f1, f6]
    exact hJ _ _ _ ⟨by simp [f1], by simp [f6], by simp [-splice, f0, f1, f6], by simp [-splice, f0, f1, f6], by simp [-splice, f0, f1, f6]⟩
  clear f0 f1 f6
  rintro t H n ⟨f1, f6, f14, f15, f16⟩
  refine Stk.on ?_
  refine Stk.bk ?_
  refine Stk.lo (fun μ t H n => ∃ v1 : (List api_Term), ∃ v2 : Int, poly_Put_L0 F a0 a1 μ v1 v2 = some r ∧ t 1 = .ssl (encs c37 a1) a1.length false ∧ t 6 = .ssl (encs c97 v1) v1.length false ∧ t 14 = .ssl (encs c97 a0) a0.length false ∧ t 15 = .sc (.int .i64 (a0.length : Int)) ∧ t 16 = .sc (.int .i64 v2)) F ⟨([] : (List api_Term)), 0, h, f1, f6, f14, f15, f16⟩ ?_
  clear h f1 f6 f14 f15 f16
  rintro J1 hJ1 μ t H n ⟨v1, v2, h, f1, f6, f14, f15, f16⟩
  cases μ with
  | zero => exact absurd h (by simp [poly_Put_L0])
  | succ μ =>
  rw [poly_Put_L0] at h
  refine Stk.sq ?_
  refine Stk.rg ?_
  refine Stk.run 1 (fun t H n => t 1 = .ssl (encs c37 a1) a1.length false ∧ t 6 = .ssl (encs c97 v1) v1.length false ∧ t 14 = .ssl (encs c97 a0) a0.length false ∧ t 15 = .sc (.int .i64 (a0.length : Int)) ∧ t 16 = .sc (.int .i64 v2) ∧ t 17 = .sc (.bool (decide (v2 < (a0.length : Int))))) (fun J hJ => ?_) ?_
  · simp [-splice, f1, f6, f14, f15, f16]
    exact hJ _ _ _ ⟨by simp [f1], by simp [f6], by simp [f14], by simp [f15], by simp [f16], by simp [-splice, f1, f6, f14, f15, f16]⟩
  clear f1 f6 f14 f15 f16
  rintro t H n ⟨f1, f6, f14, f15, f16, f17⟩
  refine Stk.on ?_
  refine Stk.sq ?_
  refine Stk.cond (decide (v2 < (a0.length : Int))) (by exact f17) (fun hb5 => ?_) (fun hb5 => ?_)
  · have h := cT hb5 h
    refine Stk.sk ?_
    refine Stk.sq ?_
    refine Stk.bk ?_
    refine Stk.sq ?_
    refine Stk.rg ?_
    obtain ⟨x6, hx6, h⟩ := bnd h
    obtain ⟨i0x6, i1x6, i2x6, _⟩ := idx_ok hx6
    have ex6_0_97 : partOf T.T 97 (encs c97 a0) (v2.toNat * 13) = some (.agg (c97 x6)) := by
        have e0 := part_elem0 (e := c97) (z := 13) (T := T.T) (ty := 97) T.t97 (by decide) (by decide) hx6 0 (by decide)
        (try simp only [Nat.mul_one, Nat.add_zero] at e0)
        exact e0.trans (ld_97_0_97 _)
    refine Stk.run 2 (fun t H n => t 1 = .ssl (encs c37 a1) a1.length false ∧ t 6 = .ssl (encs c97 v1) v1.length false ∧ t 14 = .ssl (encs c97 a0) a0.length false ∧ t 15 = .sc (.int .i64 (a0.length : Int)) ∧ t 16 = .sc (.int .i64 v2) ∧ t 19 = .agg (c97 x6)) (fun J hJ => ?_) ?_
    · simp [-splice, f1, f6, f14, f15, f16, f17, i0x6, i1x6, pd97, ex6_0_97]
      exact hJ _ _ _ ⟨by simp [f1], by simp [f6], by simp [f14], by simp [f15], by simp [f16], by simp [-splice, f1, f6, f14, f15, f16, f17, i0x6, i1x6, pd97, ex6_0_97]⟩
    clear f1 f6 f14 f15 f16 f17
    rintro t H n ⟨f1, f6, f14, f15, f16, f19⟩
    refine Stk.om (mop_alloc T.t97 (cs := c97 (api_Term.mk (Arr.rep 12 0) 0)) rfl) (by simp [f1, f6, f14, f15, f16, f19]) rfl (fun t' ht' => ?_)
    refine Stk.gen (fun t H n => ∃ b7, t 1 = .ssl (encs c37 a1) a1.length false ∧ t 6 = .ssl (encs c97 v1) v1.length false ∧ t 8 = .own b7 0 ∧ t 14 = .ssl (encs c97 a0) a0.length false ∧ t 15 = .sc (.int .i64 (a0.length : Int)) ∧ t 16 = .sc (.int .i64 v2) ∧ t 19 = .agg (c97 x6) ∧ H b7 = some (.cells (c97 (api_Term.mk (Arr.rep 12 0) 0)) 97) ∧ b7 < n) ⟨n, by simp [ht', f1], by simp [ht', f6], by simp [ht'], by simp [ht', f14], by simp [ht', f15], by simp [ht', f16], by simp [ht', f19], upd_same _ _ _, Nat.lt_succ_self _⟩ ?_
    clear f1 f6 f14 f15 f16 f19 ht' t'
    rintro t H n ⟨b7, f1, f6, f8, f14, f15, f16, f19, b_b7, l_b7⟩
    refine Stk.om (mop_store (z := 13) rfl f8 b_b7 f19 (len97 _) (by rw [len97]; decide) (ok97 _) (st_97_0_97 _ _)) (by simp [f1, f6, f8, f14, f15, f16, f19]) rfl (fun t' ht' => ?_)
    refine Stk.gen (fun t H n => t 1 = .ssl (encs c37 a1) a1.length false ∧ t 6 = .ssl (encs c97 v1) v1.length false ∧ t 8 = .own b7 0 ∧ t 14 = .ssl (encs c97 a0) a0.length false ∧ t 15 = .sc (.int .i64 (a0.length : Int)) ∧ t 16 = .sc (.int .i64 v2) ∧ H b7 = some (.cells (c97 x6) 97) ∧ b7 < n) ⟨by simp [ht', f1], by simp [ht', f6], by simp [ht', f8], by simp [ht', f14], by simp [ht', f15], by simp [ht', f16], upd_same _ _ _, l_b7⟩ ?_
    clear f1 f6 f8 f14 f15 f16 f19 b_b7 l_b7 ht' t'
    rintro t H n ⟨f1, f6, f8, f14, f15, f16, b_b7, l_b7⟩
    refine Stk.on ?_
    refine Stk.sq ?_
    refine Stk.rg ?_
    refine Stk.run 2 (fun t H n => t 1 = .ssl (encs c37 a1) a1.length false ∧ t 6 = .ssl (encs c97 v1) v1.length false ∧ t 8 = .own b7 0 ∧ t 14 = .ssl (encs c97 a0) a0.length false ∧ t 15 = .sc (.int .i64 (a0.length : Int)) ∧ t 16 = .sc (.int .i64 v2) ∧ t 22 = .sc (.int .i64 x6.Coef) ∧ H b7 = some (.cells (c97 x6) 97) ∧ b7 < n) (fun J hJ => ?_) ?_
    · simp [-splice, f1, f6, f8, f14, f15, f16, b_b7, ld_97_12_2]
      exact hJ _ _ _ ⟨by simp [f1], by simp [f6], by simp [f8], by simp [f14], by simp [f15], by simp [f16], by simp [-splice, f1, f6, f8, f14, f15, f16, b_b7, ld_97_12_2], b_b7, l_b7⟩
    clear f1 f6 f8 f14 f15 f16 b_b7 l_b7
    rintro t H n ⟨f1, f6, f8, f14, f15, f16, f22, b_b7, l_b7⟩
    obtain ⟨x8, hx8, h⟩ := bnd h
    refine Stk.cv (g := 31) (args := [.sc (.int .i64 x6.Coef)]) (args' := [.sc (.int .i64 x6.Coef)]) (v := .tup [.ssl (encs c97 x8.1) x8.1.length false, .sc (.int .i64 x8.2)]) [] (ok_poly_Num F _ _ hx8) (by simp [f1, f6, f8, f14, f15, f16, f22]) rfl rfl (by simp [f1, f6, f8, f14, f15, f16, f22]) (.cons (.free (rfl)) (.nil)) (.inl ⟨rfl, by simp [free, freeL, freeL_encs fr97]⟩) (fun t' ht' => ?_)
    refine Stk.gen (fun t H n => t 1 = .ssl (encs c37 a1) a1.length false ∧ t 6 = .ssl (encs c97 v1) v1.length false ∧ t 8 = .own b7 0 ∧ t 14 = .ssl (encs c97 a0) a0.length false ∧ t 15 = .sc (.int .i64 (a0.length : Int)) ∧ t 16 = .sc (.int .i64 v2) ∧ t 23 = .tup [.ssl (encs c97 x8.1) x8.1.length false, .sc (.int .i64 x8.2)] ∧ H b7 = some (.cells (c97 x6) 97) ∧ b7 < n) ⟨by simp [ht', f1], by simp [ht', f6], by simp [ht', f8], by simp [ht', f14], by simp [ht', f15], by simp [ht', f16], by simp [ht'], b_b7, l_b7⟩ ?_
    clear f1 f6 f8 f14 f15 f16 f22 b_b7 l_b7 ht' t'
    rintro t H n ⟨f1, f6, f8, f14, f15, f16, f23, b_b7, l_b7⟩
    refine Stk.run 5 (fun t H n => t 1 = .ssl (encs c37 a1) a1.length false ∧ t 6 = .ssl (encs c97 v1) v1.length false ∧ t 8 = .own b7 0 ∧ t 9 = .ssl (encs c97 x8.1) x8.1.length false ∧ t 14 = .ssl (encs c97 a0) a0.length false ∧ t 15 = .sc (.int .i64 (a0.length : Int)) ∧ t 16 = .sc (.int .i64 v2) ∧ H b7 = some (.cells (c97 x6) 97) ∧ b7 < n) (fun J hJ => ?_) ?_
    · simp [-splice, f1, f6, f8, f14, f15, f16, f23, b_b7]
      exact hJ _ _ _ ⟨by simp [f1], by simp [f6], by simp [f8], by simp [-splice, f1, f6, f8, f14, f15, f16, f23, b_b7], by simp [f14], by simp [f15], by simp [f16], b_b7, l_b7⟩
    clear f1 f6 f8 f14 f15 f16 f23 b_b7 l_b7
    rintro t H n ⟨f1, f6, f8, f9, f14, f15, f16, b_b7, l_b7⟩
    refine Stk.on ?_
    refine Stk.sq ?_
    refine Stk.sq ?_
    refine Stk.rg ?_
    refine Stk.run 3 (fun t H n => t 1 = .ssl (encs c37 a1) a1.length false ∧ t 6 = .ssl (encs c97 v1) v1.length false ∧ t 9 = .ssl (encs c97 x8.1) x8.1.length false ∧ t 14 = .ssl (encs c97 a0) a0.length false ∧ t 15 = .sc (.int .i64 (a0.length : Int)) ∧ t 16 = .sc (.int .i64 v2) ∧ t 27 = .agg (c95 x6.Exps) ∧ t 28 = .sc (.int .i64 0)) (fun J hJ => ?_) ?_
    · simp [-splice, f1, f6, f8, f9, f14, f15, f16, b_b7, ld_97_0_95]
      exact hJ _ _ _ ⟨by simp [f1], by simp [f6], by simp [f9], by simp [f14], by simp [f15], by simp [f16], by simp [-splice, f1, f6, f8, f9, f14, f15, f16, b_b7, ld_97_0_95], by simp [-splice, f1, f6, f8, f9, f14, f15, f16, b_b7, ld_97_0_95]⟩
    clear f1 f6 f8 f9 f14 f15 f16 b_b7 l_b7
    rintro t H n ⟨f1, f6, f9, f14, f15, f16, f27, f28⟩
    refine Stk.on ?_
    obtain ⟨K2, hK2, h⟩ := jnd h
    refine Stk.jn (fun t H n => ∃ v9 : (List api_Term), K2 v9 = some r ∧ t 1 = .ssl (encs c37 a1) a1.length false ∧ t 6 = .ssl (encs c97 v1) v1.length false ∧ t 9 = .ssl (encs c97 v9) v9.length false ∧ t 14 = .ssl (encs c97 a0) a0.length false ∧ t 15 = .sc (.int .i64 (a0.length : Int)) ∧ t 16 = .sc (.int .i64 v2)) trivial (fun J2 hJ2 => ?_) ?_
    · skip
      refine Stk.bk ?_
      refine Stk.lo (fun μ t H n => ∃ v10 : (List api_Term), ∃ v11 : Int, poly_Put_L1 F a1 x6 K2 μ v10 v11 = some r ∧ t 1 = .ssl (encs c37 a1) a1.length false ∧ t 6 = .ssl (encs c97 v1) v1.length false ∧ t 9 = .ssl (encs c97 v10) v10.length false ∧ t 14 = .ssl (encs c97 a0) a0.length false ∧ t 15 = .sc (.int .i64 (a0.length : Int)) ∧ t 16 = .sc (.int .i64 v2) ∧ t 27 = .agg (c95 x6.Exps) ∧ t 28 = .sc (.int .i64 v11)) F ⟨x8.1, 0, h, f1, f6, f9, f14, f15, f16, f27, f28⟩ ?_
      clear h f1 f6 f9 f14 f15 f16 f27 f28
      rintro J3 hJ3 μ t H n ⟨v10, v11, h, f1, f6, f9, f14, f15, f16, f27, f28⟩
      cases μ with
      | zero => exact absurd h (by simp [poly_Put_L1])
      | succ μ =>
      rw [poly_Put_L1] at h
      refine Stk.sq ?_
      refine Stk.rg ?_
      refine Stk.run 1 (fun t H n => t 1 = .ssl (encs c37 a1) a1.length false ∧ t 6 = .ssl (encs c97 v1) v1.length false ∧ t 9 = .ssl (encs c97 v10) v10.length false ∧ t 14 = .ssl (encs c97 a0) a0.length false ∧ t 15 = .sc (.int .i64 (a0.length : Int)) ∧ t 16 = .sc (.int .i64 v2) ∧ t 27 = .agg (c95 x6.Exps) ∧ t 28 = .sc (.int .i64 v11) ∧ t 29 = .sc (.bool (decide (v11 < 12)))) (fun J hJ => ?_) ?_
      · simp [-splice, f1, f6, f9, f14, f15, f16, f27, f28]
        exact hJ _ _ _ ⟨by simp [f1], by simp [f6], by simp [f9], by simp [f14], by simp [f15], by simp [f16], by simp [f27], by simp [f28], by simp [-splice, f1, f6, f9, f14, f15, f16, f27, f28]⟩
      clear f1 f6 f9 f14 f15 f16 f27 f28
      rintro t H n ⟨f1, f6, f9, f14, f15, f16, f27, f28, f29⟩
      refine Stk.on ?_
      refine Stk.sq ?_
      refine Stk.cond (decide (v11 < 12)) (by exact f29) (fun hb14 => ?_) (fun hb14 => ?_)
      · have h := cT hb14 h
        refine Stk.sk ?_
        refine Stk.sq ?_
        refine Stk.bk ?_
        refine Stk.sq ?_
        refine Stk.rg ?_
        obtain ⟨x15, hx15, h⟩ := bnd h
        obtain ⟨i0x15, i1x15, i2x15, _⟩ := idx_ok hx15
        have i3x15 : v11 < 12 := by rw [x6.Exps.2] at i1x15; exact i1x15
        have i4x15 : v11.toNat < 12 := by omega
        have qx15 : partOf T.T 5 (c95 x6.Exps) (v11.toNat) = some (.sc (.int .u8 x15)) := by
          rw [c95]
          have e0 := part_elem0 (e := c5) (z := 1) (T := T.T) (ty := 5) T.t5 (by decide) (by decide) hx15 0 (by decide)
          (try simp only [Nat.mul_one, Nat.add_zero] at e0)
          exact e0.trans rfl
        refine Stk.run 4 (fun t H n => t 1 = .ssl (encs c37 a1) a1.length false ∧ t 6 = .ssl (encs c97 v1) v1.length false ∧ t 9 = .ssl (encs c97 v10) v10.length false ∧ t 11 = .sc (.int .i64 v11) ∧ t 12 = .sc (.int .u8 x15) ∧ t 14 = .ssl (encs c97 a0) a0.length false ∧ t 15 = .sc (.int .i64 (a0.length : Int)) ∧ t 16 = .sc (.int .i64 v2) ∧ t 27 = .agg (c95 x6.Exps) ∧ t 28 = .sc (.int .i64 v11)) (fun J hJ => ?_) ?_
        · simp [-splice, f1, f6, f9, f14, f15, f16, f27, f28, f29, i0x15, i1x15, i3x15, i4x15, qx15]
          exact hJ _ _ _ ⟨by simp [f1], by simp [f6], by simp [f9], by simp [-splice, f1, f6, f9, f14, f15, f16, f27, f28, f29, i0x15, i1x15, i3x15, i4x15, qx15], by simp [-splice, f1, f6, f9, f14, f15, f16, f27, f28, f29, i0x15, i1x15, i3x15, i4x15, qx15], by simp [f14], by simp [f15], by simp [f16], by simp [f27], by simp [f28]⟩
        clear f1 f6 f9 f14 f15 f16 f27 f28 f29
        rintro t H n ⟨f1, f6, f9, f11, f12, f14, f15, f16, f27, f28⟩
        refine Stk.on ?_
        refine Stk.sq ?_
        refine Stk.rg ?_
        refine Stk.run 1 (fun t H n => t 1 = .ssl (encs c37 a1) a1.length false ∧ t 6 = .ssl (encs c97 v1) v1.length false ∧ t 9 = .ssl (encs c97 v10) v10.length false ∧ t 11 = .sc (.int .i64 v11) ∧ t 12 = .sc (.int .u8 x15) ∧ t 14 = .ssl (encs c97 a0) a0.length false ∧ t 15 = .sc (.int .i64 (a0.length : Int)) ∧ t 16 = .sc (.int .i64 v2) ∧ t 27 = .agg (c95 x6.Exps) ∧ t 28 = .sc (.int .i64 v11) ∧ t 32 = .sc (.int .i64 v11)) (fun J hJ => ?_) ?_
        · simp [-splice, f1, f6, f9, f11, f12, f14, f15, f16, f27, f28]
          exact hJ _ _ _ ⟨by simp [f1], by simp [f6], by simp [f9], by simp [f11], by simp [f12], by simp [f14], by simp [f15], by simp [f16], by simp [f27], by simp [f28], by simp [-splice, f1, f6, f9, f11, f12, f14, f15, f16, f27, f28]⟩
        clear f1 f6 f9 f11 f12 f14 f15 f16 f27 f28
        rintro t H n ⟨f1, f6, f9, f11, f12, f14, f15, f16, f27, f28, f32⟩
        obtain ⟨x16, hx16, h⟩ := bnd h
        refine Stk.cv (g := 69) (args := [.sc (.int .i64 v11)]) (args' := [.sc (.int .i64 v11)]) (v := .agg (c97 x16)) [] (ok_poly_unknown F _ _ hx16) (by simp [f1, f6, f9, f11, f12, f14, f15, f16, f27, f28, f32]) rfl rfl (by simp [f1, f6, f9, f11, f12, f14, f15, f16, f27, f28, f32]) (.cons (.free (rfl)) (.nil)) (.inl ⟨rfl, fr97 _⟩) (fun t' ht' => ?_)
        refine Stk.gen (fun t H n => t 1 = .ssl (encs c37 a1) a1.length false ∧ t 6 = .ssl (encs c97 v1) v1.length false ∧ t 9 = .ssl (encs c97 v10) v10.length false ∧ t 11 = .sc (.int .i64 v11) ∧ t 12 = .sc (.int .u8 x15) ∧ t 14 = .ssl (encs c97 a0) a0.length false ∧ t 15 = .sc (.int .i64 (a0.length : Int)) ∧ t 16 = .sc (.int .i64 v2) ∧ t 27 = .agg (c95 x6.Exps) ∧ t 28 = .sc (.int .i64 v11) ∧ t 33 = .agg (c97 x16)) ⟨by simp [ht', f1], by simp [ht', f6], by simp [ht', f9], by simp [ht', f11], by simp [ht', f12], by simp [ht', f14], by simp [ht', f15], by simp [ht', f16], by simp [ht', f27], by simp [ht', f28], by simp [ht']⟩ ?_
        clear f1 f6 f9 f11 f12 f14 f15 f16 f27 f28 f32 ht' t'
        rintro t H n ⟨f1, f6, f9, f11, f12, f14, f15, f16, f27, f28, f33⟩
        refine Stk.om (mop_buildN (c := c97) (z := 13) T.t37 rfl T.t97 rfl (by decide) rfl (by decide) [x16] rfl (.cons f33 rfl rfl rfl (len97 _) (by simp [length_encs]) (splice_next (c := c97) [] _ x16 rfl (by simp)) (.nil))) (by simp [f1, f6, f9, f11, f12, f14, f15, f16, f27, f28, f33]) rfl (fun t' ht' => ?_)
        refine Stk.gen (fun t H n => ∃ b17, t 1 = .ssl (encs c37 a1) a1.length false ∧ t 6 = .ssl (encs c97 v1) v1.length false ∧ t 9 = .ssl (encs c97 v10) v10.length false ∧ t 11 = .sc (.int .i64 v11) ∧ t 12 = .sc (.int .u8 x15) ∧ t 14 = .ssl (encs c97 a0) a0.length false ∧ t 15 = .sc (.int .i64 (a0.length : Int)) ∧ t 16 = .sc (.int .i64 v2) ∧ t 27 = .agg (c95 x6.Exps) ∧ t 28 = .sc (.int .i64 v11) ∧ t 34 = .osl b17 0 ([x16] : List api_Term).length (some ([x16] : List api_Term).length) ∧ H b17 = some (.cells (encs c97 ([x16] : List api_Term)) 97) ∧ b17 < n) ⟨n, by simp [ht', f1], by simp [ht', f6], by simp [ht', f9], by simp [ht', f11], by simp [ht', f12], by simp [ht', f14], by simp [ht', f15], by simp [ht', f16], by simp [ht', f27], by simp [ht', f28], by simp [ht'], upd_same _ _ _, Nat.lt_succ_self _⟩ ?_
        clear f1 f6 f9 f11 f12 f14 f15 f16 f27 f28 f33 ht' t'
        rintro t H n ⟨b17, f1, f6, f9, f11, f12, f14, f15, f16, f27, f28, f34, b_b17, l_b17⟩
        refine Stk.run 1 (fun t H n => t 1 = .ssl (encs c37 a1) a1.length false ∧ t 6 = .ssl (encs c97 v1) v1.length false ∧ t 9 = .ssl (encs c97 v10) v10.length false ∧ t 11 = .sc (.int .i64 v11) ∧ t 12 = .sc (.int .u8 x15) ∧ t 13 = .osl b17 0 ([x16] : List api_Term).length (some ([x16] : List api_Term).length) ∧ t 14 = .ssl (encs c97 a0) a0.length false ∧ t 15 = .sc (.int .i64 (a0.length : Int)) ∧ t 16 = .sc (.int .i64 v2) ∧ t 27 = .agg (c95 x6.Exps) ∧ t 28 = .sc (.int .i64 v11) ∧ H b17 = some (.cells (encs c97 ([x16] : List api_Term)) 97) ∧ b17 < n) (fun J hJ => ?_) ?_
        · simp [-splice, f1, f6, f9, f11, f12, f14, f15, f16, f27, f28, f34, b_b17]
          exact hJ _ _ _ ⟨by simp [f1], by simp [f6], by simp [f9], by simp [f11], by simp [f12], by simp [-splice, f1, f6, f9, f11, f12, f14, f15, f16, f27, f28, f34, b_b17], by simp [f14], by simp [f15], by simp [f16], by simp [f27], by simp [f28], b_b17, l_b17⟩
        clear f1 f6 f9 f11 f12 f14 f15 f16 f27 f28 f34 b_b17 l_b17
        rintro t H n ⟨f1, f6, f9, f11, f12, f13, f14, f15, f16, f27, f28, b_b17, l_b17⟩
        refine Stk.wkf trivial [b17] 13 (.ssl (encs c97 ([x16] : List api_Term)) ([x16] : List api_Term).length false) (by rw [f13]; exact .inr (.inr (view_row fr97 b_b17 (by simp) _))) (fun t' H' ht' hH' => ?_)
        refine Stk.gen (fun t H n => t 1 = .ssl (encs c37 a1) a1.length false ∧ t 6 = .ssl (encs c97 v1) v1.length false ∧ t 9 = .ssl (encs c97 v10) v10.length false ∧ t 11 = .sc (.int .i64 v11) ∧ t 12 = .sc (.int .u8 x15) ∧ t 13 = .ssl (encs c97 ([x16] : List api_Term)) ([x16] : List api_Term).length false ∧ t 14 = .ssl (encs c97 a0) a0.length false ∧ t 15 = .sc (.int .i64 (a0.length : Int)) ∧ t 16 = .sc (.int .i64 v2) ∧ t 27 = .agg (c95 x6.Exps) ∧ t 28 = .sc (.int .i64 v11)) ⟨by simp [ht', f1], by simp [ht', f6], by simp [ht', f9], by simp [ht', f11], by simp [ht', f12], by simp [ht', f13], by simp [ht', f14], by simp [ht', f15], by simp [ht', f16], by simp [ht', f27], by simp [ht', f28]⟩ ?_
        clear f1 f6 f9 f11 f12 f13 f14 f15 f16 f27 f28 b_b17 l_b17 hH' ht' t' H'
        rintro t H n ⟨f1, f6, f9, f11, f12, f13, f14, f15, f16, f27, f28⟩
        refine Stk.on ?_
        refine Stk.sq ?_
        refine Stk.sq ?_
        refine Stk.rg ?_
        refine Stk.run 4 (fun t H n => t 1 = .ssl (encs c37 a1) a1.length false ∧ t 6 = .ssl (encs c97 v1) v1.length false ∧ t 9 = .ssl (encs c97 v10) v10.length false ∧ t 11 = .sc (.int .i64 v11) ∧ t 12 = .sc (.int .u8 x15) ∧ t 13 = .ssl (encs c97 ([x16] : List api_Term)) ([x16] : List api_Term).length false ∧ t 14 = .ssl (encs c97 a0) a0.length false ∧ t 15 = .sc (.int .i64 (a0.length : Int)) ∧ t 16 = .sc (.int .i64 v2) ∧ t 27 = .agg (c95 x6.Exps) ∧ t 28 = .sc (.int .i64 v11) ∧ t 38 = .sc (.bool (decide (v11 < (a1.length : Int))))) (fun J hJ => ?_) ?_
        · simp [-splice, f1, f6, f9, f11, f12, f13, f14, f15, f16, f27, f28]
          exact hJ _ _ _ ⟨by simp [f1], by simp [f6], by simp [f9], by simp [f11], by simp [f12], by simp [f13], by simp [f14], by simp [f15], by simp [f16], by simp [f27], by simp [f28], by simp [-splice, f1, f6, f9, f11, f12, f13, f14, f15, f16, f27, f28]⟩
        clear f1 f6 f9 f11 f12 f13 f14 f15 f16 f27 f28
        rintro t H n ⟨f1, f6, f9, f11, f12, f13, f14, f15, f16, f27, f28, f38⟩
        refine Stk.on ?_
        obtain ⟨K4, hK4, h⟩ := jnd h
        refine Stk.jn (fun t H n => ∃ v18 : (List api_Term), K4 v18 = some r ∧ t 1 = .ssl (encs c37 a1) a1.length false ∧ t 6 = .ssl (encs c97 v1) v1.length false ∧ t 9 = .ssl (encs c97 v10) v10.length false ∧ t 12 = .sc (.int .u8 x15) ∧ t 13 = .ssl (encs c97 v18) v18.length false ∧ t 14 = .ssl (encs c97 a0) a0.length false ∧ t 15 = .sc (.int .i64 (a0.length : Int)) ∧ t 16 = .sc (.int .i64 v2) ∧ t 27 = .agg (c95 x6.Exps) ∧ t 28 = .sc (.int .i64 v11)) trivial (fun J4 hJ4 => ?_) ?_
        · skip
          refine Stk.cond (decide (v11 < (a1.length : Int))) (by exact f38) (fun hb19 => ?_) (fun hb19 => ?_)
          · have h := cT hb19 h
            refine Stk.rg ?_
            obtain ⟨x20, hx20, h⟩ := bnd h
            obtain ⟨i0x20, i1x20, i2x20, _⟩ := idx_ok hx20
            have ex20_0_37 : partOf T.T 37 (encs c37 a1) (v11.toNat) = some (.ssl (encs c97 x20) x20.length false) := by
                have e0 := part_elem0 (e := c37) (z := 1) (T := T.T) (ty := 37) T.t37 (by decide) (by decide) hx20 0 (by decide)
                (try simp only [Nat.mul_one, Nat.add_zero] at e0)
                exact e0.trans rfl
            refine Stk.run 5 (fun t H n => t 1 = .ssl (encs c37 a1) a1.length false ∧ t 6 = .ssl (encs c97 v1) v1.length false ∧ t 9 = .ssl (encs c97 v10) v10.length false ∧ t 12 = .sc (.int .u8 x15) ∧ t 13 = .ssl (encs c97 x20) x20.length false ∧ t 14 = .ssl (encs c97 a0) a0.length false ∧ t 15 = .sc (.int .i64 (a0.length : Int)) ∧ t 16 = .sc (.int .i64 v2) ∧ t 27 = .agg (c95 x6.Exps) ∧ t 28 = .sc (.int .i64 v11)) (fun J hJ => ?_) ?_
            · simp [-splice, f1, f6, f9, f11, f12, f13, f14, f15, f16, f27, f28, f38, i0x20, i1x20, pd37, ex20_0_37]
              exact hJ _ _ _ ⟨by simp [f1], by simp [f6], by simp [f9], by simp [f12], by simp [-splice, f1, f6, f9, f11, f12, f13, f14, f15, f16, f27, f28, f38, i0x20, i1x20, pd37, ex20_0_37], by simp [f14], by simp [f15], by simp [f16], by simp [f27], by simp [f28]⟩
            clear f1 f6 f9 f11 f12 f13 f14 f15 f16 f27 f28 f38
            rintro t H n ⟨f1, f6, f9, f12, f13, f14, f15, f16, f27, f28⟩
            refine Stk.on ?_
            exact Stk.ln 0 (by decide) (hJ4 _ _ _ ⟨x20, h, f1, f6, f9, f12, f13, f14, f15, f16, f27, f28⟩)
          · have h := cF hb19 h
            refine Stk.sk ?_
            exact Stk.ln 0 (by decide) (hJ4 _ _ _ ⟨([x16] : List api_Term), h, f1, f6, f9, f12, f13, f14, f15, f16, f27, f28⟩)
        clear h f1 f6 f9 f11 f12 f13 f14 f15 f16 f27 f28 f38
        rintro t H n ⟨v18, h, f1, f6, f9, f12, f13, f14, f15, f16, f27, f28⟩
        subst hK4
        refine Stk.sq ?_
        refine Stk.rg ?_
        refine Stk.run 2 (fun t H n => t 1 = .ssl (encs c37 a1) a1.length false ∧ t 6 = .ssl (encs c97 v1) v1.length false ∧ t 9 = .ssl (encs c97 v10) v10.length false ∧ t 13 = .ssl (encs c97 v18) v18.length false ∧ t 14 = .ssl (encs c97 a0) a0.length false ∧ t 15 = .sc (.int .i64 (a0.length : Int)) ∧ t 16 = .sc (.int .i64 v2) ∧ t 27 = .agg (c95 x6.Exps) ∧ t 28 = .sc (.int .i64 v11) ∧ t 43 = .sc (.int .u8 x15) ∧ t 44 = .sc (.int .u8 0)) (fun J hJ => ?_) ?_
        · simp [-splice, f1, f6, f9, f12, f13, f14, f15, f16, f27, f28]
          exact hJ _ _ _ ⟨by simp [f1], by simp [f6], by simp [f9], by simp [f13], by simp [f14], by simp [f15], by simp [f16], by simp [f27], by simp [f28], by simp [-splice, f1, f6, f9, f12, f13, f14, f15, f16, f27, f28], by simp [-splice, f1, f6, f9, f12, f13, f14, f15, f16, f27, f28]⟩
        clear f1 f6 f9 f12 f13 f14 f15 f16 f27 f28
        rintro t H n ⟨f1, f6, f9, f13, f14, f15, f16, f27, f28, f43, f44⟩
        refine Stk.on ?_
        obtain ⟨K5, hK5, h⟩ := jnd h
        refine Stk.jn (fun t H n => ∃ v21 : (List api_Term), K5 v21 = some r ∧ t 1 = .ssl (encs c37 a1) a1.length false ∧ t 6 = .ssl (encs c97 v1) v1.length false ∧ t 9 = .ssl (encs c97 v21) v21.length false ∧ t 14 = .ssl (encs c97 a0) a0.length false ∧ t 15 = .sc (.int .i64 (a0.length : Int)) ∧ t 16 = .sc (.int .i64 v2) ∧ t 27 = .agg (c95 x6.Exps) ∧ t 28 = .sc (.int .i64 v11)) trivial (fun J5 hJ5 => ?_) ?_
        · skip
          refine Stk.bk ?_
          refine Stk.lo (fun μ t H n => ∃ v22 : (List api_Term), ∃ v23 : Int, poly_Put_L2 F x15 v18 K5 μ v22 v23 = some r ∧ t 1 = .ssl (encs c37 a1) a1.length false ∧ t 6 = .ssl (encs c97 v1) v1.length false ∧ t 9 = .ssl (encs c97 v22) v22.length false ∧ t 13 = .ssl (encs c97 v18) v18.length false ∧ t 14 = .ssl (encs c97 a0) a0.length false ∧ t 15 = .sc (.int .i64 (a0.length : Int)) ∧ t 16 = .sc (.int .i64 v2) ∧ t 27 = .agg (c95 x6.Exps) ∧ t 28 = .sc (.int .i64 v11) ∧ t 43 = .sc (.int .u8 x15) ∧ t 44 = .sc (.int .u8 v23)) F ⟨v10, 0, h, f1, f6, f9, f13, f14, f15, f16, f27, f28, f43, f44⟩ ?_
          clear h f1 f6 f9 f13 f14 f15 f16 f27 f28 f43 f44
          rintro J6 hJ6 μ t H n ⟨v22, v23, h, f1, f6, f9, f13, f14, f15, f16, f27, f28, f43, f44⟩
          cases μ with
          | zero => exact absurd h (by simp [poly_Put_L2])
          | succ μ =>
          rw [poly_Put_L2] at h
          refine Stk.sq ?_
          refine Stk.rg ?_
          refine Stk.run 1 (fun t H n => t 1 = .ssl (encs c37 a1) a1.length false ∧ t 6 = .ssl (encs c97 v1) v1.length false ∧ t 9 = .ssl (encs c97 v22) v22.length false ∧ t 13 = .ssl (encs c97 v18) v18.length false ∧ t 14 = .ssl (encs c97 a0) a0.length false ∧ t 15 = .sc (.int .i64 (a0.length : Int)) ∧ t 16 = .sc (.int .i64 v2) ∧ t 27 = .agg (c95 x6.Exps) ∧ t 28 = .sc (.int .i64 v11) ∧ t 43 = .sc (.int .u8 x15) ∧ t 44 = .sc (.int .u8 v23) ∧ t 45 = .sc (.bool (decide (v23 < x15)))) (fun J hJ => ?_) ?_
          · simp [-splice, f1, f6, f9, f13, f14, f15, f16, f27, f28, f43, f44]
            exact hJ _ _ _ ⟨by simp [f1], by simp [f6], by simp [f9], by simp [f13], by simp [f14], by simp [f15], by simp [f16], by simp [f27], by simp [f28], by simp [f43], by simp [f44], by simp [-splice, f1, f6, f9, f13, f14, f15, f16, f27, f28, f43, f44]⟩
          clear f1 f6 f9 f13 f14 f15 f16 f27 f28 f43 f44
          rintro t H n ⟨f1, f6, f9, f13, f14, f15, f16, f27, f28, f43, f44, f45⟩
          refine Stk.on ?_
          refine Stk.sq ?_
          refine Stk.cond (decide (v23 < x15)) (by exact f45) (fun hb26 => ?_) (fun hb26 => ?_)
          · have h := cT hb26 h
            refine Stk.sk ?_
            refine Stk.sq ?_
            refine Stk.bk ?_
            refine Stk.sq ?_
            refine Stk.rg ?_
            refine Stk.run 2 (fun t H n => t 1 = .ssl (encs c37 a1) a1.length false ∧ t 6 = .ssl (encs c97 v1) v1.length false ∧ t 13 = .ssl (encs c97 v18) v18.length false ∧ t 14 = .ssl (encs c97 a0) a0.length false ∧ t 15 = .sc (.int .i64 (a0.length : Int)) ∧ t 16 = .sc (.int .i64 v2) ∧ t 27 = .agg (c95 x6.Exps) ∧ t 28 = .sc (.int .i64 v11) ∧ t 43 = .sc (.int .u8 x15) ∧ t 44 = .sc (.int .u8 v23) ∧ t 47 = .ssl (encs c97 v22) v22.length false ∧ t 48 = .ssl (encs c97 v18) v18.length false) (fun J hJ => ?_) ?_
            · simp [-splice, f1, f6, f9, f13, f14, f15, f16, f27, f28, f43, f44, f45]
              exact hJ _ _ _ ⟨by simp [f1], by simp [f6], by simp [f13], by simp [f14], by simp [f15], by simp [f16], by simp [f27], by simp [f28], by simp [f43], by simp [f44], by simp [-splice, f1, f6, f9, f13, f14, f15, f16, f27, f28, f43, f44, f45], by simp [-splice, f1, f6, f9, f13, f14, f15, f16, f27, f28, f43, f44, f45]⟩
            clear f1 f6 f9 f13 f14 f15 f16 f27 f28 f43 f44 f45
            rintro t H n ⟨f1, f6, f13, f14, f15, f16, f27, f28, f43, f44, f47, f48⟩
            obtain ⟨x27, hx27, h⟩ := bnd h
            refine Stk.cv (g := 21) (args := [.ssl (encs c97 v22) v22.length false, .ssl (encs c97 v18) v18.length false]) (args' := [.ssl (encs c97 v22) v22.length false, .ssl (encs c97 v18) v18.length false]) (v := .tup [.ssl (encs c97 x27.1) x27.1.length false, .sc (.int .i64 x27.2)]) [] (ok_poly_Mul F _ _ _ hx27) (by simp [f1, f6, f13, f14, f15, f16, f27, f28, f43, f44, f47, f48]) rfl rfl (by simp [f1, f6, f13, f14, f15, f16, f27, f28, f43, f44, f47, f48]) (.cons (.free (freeL_encs fr97 _)) (.cons (.free (freeL_encs fr97 _)) (.nil))) (.inl ⟨rfl, by simp [free, freeL, freeL_encs fr97]⟩) (fun t' ht' => ?_)
            refine Stk.gen (fun t H n => t 1 = .ssl (encs c37 a1) a1.length false ∧ t 6 = .ssl (encs c97 v1) v1.length false ∧ t 13 = .ssl (encs c97 v18) v18.length false ∧ t 14 = .ssl (encs c97 a0) a0.length false ∧ t 15 = .sc (.int .i64 (a0.length : Int)) ∧ t 16 = .sc (.int .i64 v2) ∧ t 27 = .agg (c95 x6.Exps) ∧ t 28 = .sc (.int .i64 v11) ∧ t 43 = .sc (.int .u8 x15) ∧ t 44 = .sc (.int .u8 v23) ∧ t 49 = .tup [.ssl (encs c97 x27.1) x27.1.length false, .sc (.int .i64 x27.2)]) ⟨by simp [ht', f1], by simp [ht', f6], by simp [ht', f13], by simp [ht', f14], by simp [ht', f15], by simp [ht', f16], by simp [ht', f27], by simp [ht', f28], by simp [ht', f43], by simp [ht', f44], by simp [ht']⟩ ?_
            clear f1 f6 f13 f14 f15 f16 f27 f28 f43 f44 f47 f48 ht' t'
            rintro t H n ⟨f1, f6, f13, f14, f15, f16, f27, f28, f43, f44, f49⟩
            refine Stk.run 5 (fun t H n => t 1 = .ssl (encs c37 a1) a1.length false ∧ t 6 = .ssl (encs c97 v1) v1.length false ∧ t 9 = .ssl (encs c97 x27.1) x27.1.length false ∧ t 10 = .sc (.int .i64 x27.2) ∧ t 13 = .ssl (encs c97 v18) v18.length false ∧ t 14 = .ssl (encs c97 a0) a0.length false ∧ t 15 = .sc (.int .i64 (a0.length : Int)) ∧ t 16 = .sc (.int .i64 v2) ∧ t 27 = .agg (c95 x6.Exps) ∧ t 28 = .sc (.int .i64 v11) ∧ t 43 = .sc (.int .u8 x15) ∧ t 44 = .sc (.int .u8 v23)) (fun J hJ => ?_) ?_
            · simp [-splice, f1, f6, f13, f14, f15, f16, f27, f28, f43, f44, f49]
              exact hJ _ _ _ ⟨by simp [f1], by simp [f6], by simp [-splice, f1, f6, f13, f14, f15, f16, f27, f28, f43, f44, f49], by simp [-splice, f1, f6, f13, f14, f15, f16, f27, f28, f43, f44, f49], by simp [f13], by simp [f14], by simp [f15], by simp [f16], by simp [f27], by simp [f28], by simp [f43], by simp [f44]⟩
            clear f1 f6 f13 f14 f15 f16 f27 f28 f43 f44 f49
            rintro t H n ⟨f1, f6, f9, f10, f13, f14, f15, f16, f27, f28, f43, f44⟩
            refine Stk.on ?_
            refine Stk.sq ?_
            refine Stk.rg ?_
            refine Stk.run 2 (fun t H n => t 1 = .ssl (encs c37 a1) a1.length false ∧ t 6 = .ssl (encs c97 v1) v1.length false ∧ t 9 = .ssl (encs c97 x27.1) x27.1.length false ∧ t 10 = .sc (.int .i64 x27.2) ∧ t 13 = .ssl (encs c97 v18) v18.length false ∧ t 14 = .ssl (encs c97 a0) a0.length false ∧ t 15 = .sc (.int .i64 (a0.length : Int)) ∧ t 16 = .sc (.int .i64 v2) ∧ t 27 = .agg (c95 x6.Exps) ∧ t 28 = .sc (.int .i64 v11) ∧ t 43 = .sc (.int .u8 x15) ∧ t 44 = .sc (.int .u8 v23) ∧ t 53 = .sc (.bool (x27.2 != 0))) (fun J hJ => ?_) ?_
            · simp [-splice, f1, f6, f9, f10, f13, f14, f15, f16, f27, f28, f43, f44]
              exact hJ _ _ _ ⟨by simp [f1], by simp [f6], by simp [f9], by simp [f10], by simp [f13], by simp [f14], by simp [f15], by simp [f16], by simp [f27], by simp [f28], by simp [f43], by simp [f44], by simp [-splice, f1, f6, f9, f10, f13, f14, f15, f16, f27, f28, f43, f44]⟩
            clear f1 f6 f9 f10 f13 f14 f15 f16 f27 f28 f43 f44
            rintro t H n ⟨f1, f6, f9, f10, f13, f14, f15, f16, f27, f28, f43, f44, f53⟩
            refine Stk.on ?_
            refine Stk.cond (x27.2 != 0) (by exact f53) (fun hb28 => ?_) (fun hb28 => ?_)
            · have h := cT hb28 h
              refine Stk.sq ?_
              refine Stk.rg ?_
              refine Stk.run 2 (fun t H n => t 4 = .sc (.slice none 0 0) ∧ t 54 = .sc (.int .i64 x27.2)) (fun J hJ => ?_) ?_
              · simp [-splice, f1, f6, f9, f10, f13, f14, f15, f16, f27, f28, f43, f44, f53]
                exact hJ _ _ _ ⟨by simp [-splice, f1, f6, f9, f10, f13, f14, f15, f16, f27, f28, f43, f44, f53], by simp [-splice, f1, f6, f9, f10, f13, f14, f15, f16, f27, f28, f43, f44, f53]⟩
              clear f1 f6 f9 f10 f13 f14 f15 f16 f27 f28 f43 f44 f53
              rintro t H n ⟨f4, f54⟩
              refine Stk.wk trivial 4 (.ssl (encs c97 ([] : (List api_Term))) ([] : (List api_Term)).length false) (by rw [f4]; exact .inr (.inr .nilS)) (fun t' ht' => ?_)
              refine Stk.gen (fun t H n => t 4 = .ssl (encs c97 ([] : (List api_Term))) ([] : (List api_Term)).length false ∧ t 54 = .sc (.int .i64 x27.2)) ⟨by simp [ht', f4], by simp [ht', f54]⟩ ?_
              clear f4 f54 ht' t'
              rintro t H n ⟨f4, f54⟩
              refine Stk.run 1 (fun t H n => t 4 = .ssl (encs c97 ([] : (List api_Term))) ([] : (List api_Term)).length false ∧ t 5 = .sc (.int .i64 x27.2)) (fun J hJ => ?_) ?_
              · simp [-splice, f4, f54]
                exact hJ _ _ _ ⟨by simp [f4], by simp [-splice, f4, f54]⟩
              clear f4 f54
              rintro t H n ⟨f4, f5⟩
              refine Stk.on ?_
              refine Stk.rt ?_
              have hq := Option.some.inj h; subst hq
              exact (hr _ _ _ (.tup [.ssl (encs c97 ([] : (List api_Term))) ([] : (List api_Term)).length false, .sc (.int .i64 x27.2)]) ([]) (by simp [f4, f5]) (.inr (.inr (.tup (.cons (.free (freeL_encs fr97 _)) (.cons (.free (rfl)) (.nil))))))).1
            · have h := cF hb28 h
              refine Stk.sk ?_
              refine Stk.bn ?_
              refine Stk.rg ?_
              refine Stk.run 2 (fun t H n => t 1 = .ssl (encs c37 a1) a1.length false ∧ t 6 = .ssl (encs c97 v1) v1.length false ∧ t 9 = .ssl (encs c97 x27.1) x27.1.length false ∧ t 13 = .ssl (encs c97 v18) v18.length false ∧ t 14 = .ssl (encs c97 a0) a0.length false ∧ t 15 = .sc (.int .i64 (a0.length : Int)) ∧ t 16 = .sc (.int .i64 v2) ∧ t 27 = .agg (c95 x6.Exps) ∧ t 28 = .sc (.int .i64 v11) ∧ t 43 = .sc (.int .u8 x15) ∧ t 44 = .sc (.int .u8 (IntKind.u8.wrap (v23 + 1)))) (fun J hJ => ?_) ?_
              · simp [-splice, f1, f6, f9, f10, f13, f14, f15, f16, f27, f28, f43, f44, f53]
                exact hJ _ _ _ ⟨by simp [f1], by simp [f6], by simp [f9], by simp [f13], by simp [f14], by simp [f15], by simp [f16], by simp [f27], by simp [f28], by simp [f43], by simp [-splice, f1, f6, f9, f10, f13, f14, f15, f16, f27, f28, f43, f44, f53]⟩
              clear f1 f6 f9 f10 f13 f14 f15 f16 f27 f28 f43 f44 f53
              rintro t H n ⟨f1, f6, f9, f13, f14, f15, f16, f27, f28, f43, f44⟩
              refine Stk.on ?_
              exact Stk.ln μ (Nat.lt_succ_self _) (hJ6 _ _ _ _ ⟨x27.1, (IntKind.u8.wrap (v23 + 1)), h, f1, f6, f9, f13, f14, f15, f16, f27, f28, f43, f44⟩)
          · have h := cF hb26 h
            refine Stk.ex rfl ?_
            exact Stk.ln 0 (by decide) (hJ5 _ _ _ ⟨v22, h, f1, f6, f9, f14, f15, f16, f27, f28⟩)
        clear h f1 f6 f9 f13 f14 f15 f16 f27 f28 f43 f44
        rintro t H n ⟨v21, h, f1, f6, f9, f14, f15, f16, f27, f28⟩
        subst hK5
        refine Stk.bn ?_
        refine Stk.rg ?_
        refine Stk.run 2 (fun t H n => t 1 = .ssl (encs c37 a1) a1.length false ∧ t 6 = .ssl (encs c97 v1) v1.length false ∧ t 9 = .ssl (encs c97 v21) v21.length false ∧ t 14 = .ssl (encs c97 a0) a0.length false ∧ t 15 = .sc (.int .i64 (a0.length : Int)) ∧ t 16 = .sc (.int .i64 v2) ∧ t 27 = .agg (c95 x6.Exps) ∧ t 28 = .sc (.int .i64 (IntKind.i64.wrap (v11 + 1)))) (fun J hJ => ?_) ?_
        · simp [-splice, f1, f6, f9, f14, f15, f16, f27, f28]
          exact hJ _ _ _ ⟨by simp [f1], by simp [f6], by simp [f9], by simp [f14], by simp [f15], by simp [f16], by simp [f27], by simp [-splice, f1, f6, f9, f14, f15, f16, f27, f28]⟩
        clear f1 f6 f9 f14 f15 f16 f27 f28
        rintro t H n ⟨f1, f6, f9, f14, f15, f16, f27, f28⟩
        refine Stk.on ?_
        exact Stk.ln μ (Nat.lt_succ_self _) (hJ3 _ _ _ _ ⟨v21, (IntKind.i64.wrap (v11 + 1)), h, f1, f6, f9, f14, f15, f16, f27, f28⟩)
      · have h := cF hb14 h
        refine Stk.ex rfl ?_
        exact Stk.ln 0 (by decide) (hJ2 _ _ _ ⟨v10, h, f1, f6, f9, f14, f15, f16⟩)
    clear h f1 f6 f9 f14 f15 f16 f27 f28
    rintro t H n ⟨v9, h, f1, f6, f9, f14, f15, f16⟩
    subst hK2
    refine Stk.sq ?_
    refine Stk.rg ?_
    refine Stk.run 2 (fun t H n => t 1 = .ssl (encs c37 a1) a1.length false ∧ t 14 = .ssl (encs c97 a0) a0.length false ∧ t 15 = .sc (.int .i64 (a0.length : Int)) ∧ t 16 = .sc (.int .i64 v2) ∧ t 58 = .ssl (encs c97 v1) v1.length false ∧ t 59 = .ssl (encs c97 v9) v9.length false) (fun J hJ => ?_) ?_
    · simp [-splice, f1, f6, f9, f14, f15, f16]
      exact hJ _ _ _ ⟨by simp [f1], by simp [f14], by simp [f15], by simp [f16], by simp [-splice, f1, f6, f9, f14, f15, f16], by simp [-splice, f1, f6, f9, f14, f15, f16]⟩
    clear f1 f6 f9 f14 f15 f16
    rintro t H n ⟨f1, f14, f15, f16, f58, f59⟩
    obtain ⟨x29, hx29, h⟩ := bnd h
    refine Stk.cv (g := 20) (args := [.ssl (encs c97 v1) v1.length false, .ssl (encs c97 v9) v9.length false]) (args' := [.ssl (encs c97 v1) v1.length false, .ssl (encs c97 v9) v9.length false]) (v := .tup [.ssl (encs c97 x29.1) x29.1.length false, .sc (.int .i64 x29.2)]) [] (ok_poly_Add F _ _ _ hx29) (by simp [f1, f14, f15, f16, f58, f59]) rfl rfl (by simp [f1, f14, f15, f16, f58, f59]) (.cons (.free (freeL_encs fr97 _)) (.cons (.free (freeL_encs fr97 _)) (.nil))) (.inl ⟨rfl, by simp [free, freeL, freeL_encs fr97]⟩) (fun t' ht' => ?_)
    refine Stk.gen (fun t H n => t 1 = .ssl (encs c37 a1) a1.length false ∧ t 14 = .ssl (encs c97 a0) a0.length false ∧ t 15 = .sc (.int .i64 (a0.length : Int)) ∧ t 16 = .sc (.int .i64 v2) ∧ t 60 = .tup [.ssl (encs c97 x29.1) x29.1.length false, .sc (.int .i64 x29.2)]) ⟨by simp [ht', f1], by simp [ht', f14], by simp [ht', f15], by simp [ht', f16], by simp [ht']⟩ ?_
    clear f1 f14 f15 f16 f58 f59 ht' t'
    rintro t H n ⟨f1, f14, f15, f16, f60⟩
    refine Stk.run 5 (fun t H n => t 1 = .ssl (encs c37 a1) a1.length false ∧ t 6 = .ssl (encs c97 x29.1) x29.1.length false ∧ t 10 = .sc (.int .i64 x29.2) ∧ t 14 = .ssl (encs c97 a0) a0.length false ∧ t 15 = .sc (.int .i64 (a0.length : Int)) ∧ t 16 = .sc (.int .i64 v2)) (fun J hJ => ?_) ?_
    · simp [-splice, f1, f14, f15, f16, f60]
      exact hJ _ _ _ ⟨by simp [f1], by simp [-splice, f1, f14, f15, f16, f60], by simp [-splice, f1, f14, f15, f16, f60], by simp [f14], by simp [f15], by simp [f16]⟩
    clear f1 f14 f15 f16 f60
    rintro t H n ⟨f1, f6, f10, f14, f15, f16⟩
    refine Stk.on ?_
    refine Stk.sq ?_
    refine Stk.rg ?_
    refine Stk.run 2 (fun t H n => t 1 = .ssl (encs c37 a1) a1.length false ∧ t 6 = .ssl (encs c97 x29.1) x29.1.length false ∧ t 10 = .sc (.int .i64 x29.2) ∧ t 14 = .ssl (encs c97 a0) a0.length false ∧ t 15 = .sc (.int .i64 (a0.length : Int)) ∧ t 16 = .sc (.int .i64 v2) ∧ t 64 = .sc (.bool (x29.2 != 0))) (fun J hJ => ?_) ?_
    · simp [-splice, f1, f6, f10, f14, f15, f16]
      exact hJ _ _ _ ⟨by simp [f1], by simp [f6], by simp [f10], by simp [f14], by simp [f15], by simp [f16], by simp [-splice, f1, f6, f10, f14, f15, f16]⟩
    clear f1 f6 f10 f14 f15 f16
    rintro t H n ⟨f1, f6, f10, f14, f15, f16, f64⟩
    refine Stk.on ?_
    refine Stk.cond (x29.2 != 0) (by exact f64) (fun hb30 => ?_) (fun hb30 => ?_)
    · have h := cT hb30 h
      refine Stk.sq ?_
      refine Stk.rg ?_
      refine Stk.run 2 (fun t H n => t 4 = .sc (.slice none 0 0) ∧ t 65 = .sc (.int .i64 x29.2)) (fun J hJ => ?_) ?_
      · simp [-splice, f1, f6, f10, f14, f15, f16, f64]
        exact hJ _ _ _ ⟨by simp [-splice, f1, f6, f10, f14, f15, f16, f64], by simp [-splice, f1, f6, f10, f14, f15, f16, f64]⟩
      clear f1 f6 f10 f14 f15 f16 f64
      rintro t H n ⟨f4, f65⟩
      refine Stk.wk trivial 4 (.ssl (encs c97 ([] : (List api_Term))) ([] : (List api_Term)).length false) (by rw [f4]; exact .inr (.inr .nilS)) (fun t' ht' => ?_)
      refine Stk.gen (fun t H n => t 4 = .ssl (encs c97 ([] : (List api_Term))) ([] : (List api_Term)).length false ∧ t 65 = .sc (.int .i64 x29.2)) ⟨by simp [ht', f4], by simp [ht', f65]⟩ ?_
      clear f4 f65 ht' t'
      rintro t H n ⟨f4, f65⟩
      refine Stk.run 1 (fun t H n => t 4 = .ssl (encs c97 ([] : (List api_Term))) ([] : (List api_Term)).length false ∧ t 5 = .sc (.int .i64 x29.2)) (fun J hJ => ?_) ?_
      · simp [-splice, f4, f65]
        exact hJ _ _ _ ⟨by simp [f4], by simp [-splice, f4, f65]⟩
      clear f4 f65
      rintro t H n ⟨f4, f5⟩
      refine Stk.on ?_
      refine Stk.rt ?_
      have hq := Option.some.inj h; subst hq
      exact (hr _ _ _ (.tup [.ssl (encs c97 ([] : (List api_Term))) ([] : (List api_Term)).length false, .sc (.int .i64 x29.2)]) ([]) (by simp [f4, f5]) (.inr (.inr (.tup (.cons (.free (freeL_encs fr97 _)) (.cons (.free (rfl)) (.nil))))))).1
    · have h := cF hb30 h
      refine Stk.sk ?_
      refine Stk.bn ?_
      refine Stk.rg ?_
      refine Stk.run 2 (fun t H n => t 1 = .ssl (encs c37 a1) a1.length false ∧ t 6 = .ssl (encs c97 x29.1) x29.1.length false ∧ t 14 = .ssl (encs c97 a0) a0.length false ∧ t 15 = .sc (.int .i64 (a0.length : Int)) ∧ t 16 = .sc (.int .i64 (IntKind.i64.wrap (v2 + 1)))) (fun J hJ => ?_) ?_
      · simp [-splice, f1, f6, f10, f14, f15, f16, f64]
        exact hJ _ _ _ ⟨by simp [f1], by simp [f6], by simp [f14], by simp [f15], by simp [-splice, f1, f6, f10, f14, f15, f16, f64]⟩
      clear f1 f6 f10 f14 f15 f16 f64
      rintro t H n ⟨f1, f6, f14, f15, f16⟩
      refine Stk.on ?_
      exact Stk.ln μ (Nat.lt_succ_self _) (hJ1 _ _ _ _ ⟨x29.1, (IntKind.i64.wrap (v2 + 1)), h, f1, f6, f14, f15, f16⟩)
  · have h := cF hb5 h
    refine Stk.ex rfl ?_
    refine Stk.sq ?_
    refine Stk.rg ?_
    refine Stk.run 3 (fun t H n => t 4 = .ssl (encs c97 v1) v1.length false ∧ t 5 = .sc (.int .i64 0)) (fun J hJ => ?_) ?_
    · simp [-splice, f1, f6, f14, f15, f16, f17]
      exact hJ _ _ _ ⟨by simp [-splice, f1, f6, f14, f15, f16, f17], by simp [-splice, f1, f6, f14, f15, f16, f17]⟩
    clear f1 f6 f14 f15 f16 f17
    rintro t H n ⟨f4, f5⟩
    refine Stk.on ?_
    refine Stk.rt ?_
    have hq := Option.some.inj h; subst hq
    exact (hr _ _ _ (.tup [.ssl (encs c97 v1) v1.length false, .sc (.int .i64 0)]) ([]) (by simp [f4, f5]) (.inr (.inr (.tup (.cons (.free (freeL_encs fr97 _)) (.cons (.free (rfl)) (.nil))))))).1
end Go.Proofs.Ytfbkgjmpadknfaa.M
