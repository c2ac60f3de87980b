/-
  The functions come to them.
-/
import Derived.Test.YtfbkgjmpadknfaaGM
import Derived.Test.YtfbkgjmpadknfaaGW0
import Derived.Test.YtfbkgjmpadknfaaGW1
import Derived.Test.YtfbkgjmpadknfaaGW2
namespace Go.Proofs.Ytfbkgjmpadknfaa.M
open Go.Proofs.YtfbkgjmpadknfaaW.Ah Go.Proofs.Ytfbkgjmpadknfaa
set_option linter.unusedVariables false
set_option linter.unusedSimpArgs false
set_option maxRecDepth 8000
attribute [local simp] T.t2 T.t3 T.t4 T.t5 T.t23 T.t37 T.t45 T.t95 T.t97 List.range List.range.loop
attribute [-simp] appendAV fillAV
theorem ok_poly_valued (F : Nat) (a0 : api_Term) (a1 : (List Int)) (r : (Int × Bool)) (h : poly_valued F a0 a1 = some r) : RunF Try.prog T.T 68 [.agg (c97 a0), .ssl (encs c2 a1) a1.length false] (.tup [.sc (.int .i64 r.1), .sc (.bool r.2)]) := by
  rw [poly_valued] at h
  refine RunF.z Try.func68 rfl rfl rfl rfl rfl (fun C hr => ?_)
  refine Stk.gen (fun t H n => t 0 = .agg (c97 a0) ∧ t 1 = .ssl (encs c2 a1) a1.length false) ⟨by simp, by simp⟩ ?_
  rintro t H n ⟨f0, f1⟩
  refine Stk.sq ?_
  refine Stk.rg ?_
  refine Stk.om (mop_box T.t97 (cs := c97 a0) (by show partOk (t 0) = true; rw [f0]; rfl) (by show cellsOf (t 0) = _; rw [f0]; rfl)) (by simp [f0, f1]) rfl (fun t' ht' => ?_)
  refine Stk.gen (fun t H n => ∃ b1, t 1 = .ssl (encs c2 a1) a1.length false ∧ t 2 = .own b1 0 ∧ H b1 = some (.cells (c97 a0) 97) ∧ b1 < n) ⟨n, by simp [ht', f1], by simp [ht'], upd_same _ _ _, Nat.lt_succ_self _⟩ ?_
  clear f0 f1 ht' t'
  rintro t H n ⟨b1, f1, f2, b_b1, l_b1⟩
  refine Stk.om (mop_box T.t45 (cs := c45 a1) (by show partOk (t 1) = true; rw [f1]; rfl) (by show cellsOf (t 1) = _; rw [f1]; rfl)) (by simp [f1, f2]) rfl (fun t' ht' => ?_)
  refine Stk.gen (fun t H n => ∃ b2, t 2 = .own b1 0 ∧ t 3 = .own b2 0 ∧ H b1 = some (.cells (c97 a0) 97) ∧ b1 < n ∧ H b2 = some (.cells (c45 a1) 45) ∧ b2 < n ∧ b1 ≠ b2) ⟨n, by simp [ht', f2], by simp [ht'], (upd_ne _ _ (Nat.ne_of_lt l_b1)).trans b_b1, Nat.lt_succ_of_lt l_b1, upd_same _ _ _, Nat.lt_succ_self _, Nat.ne_of_lt l_b1⟩ ?_
  clear f1 f2 b_b1 l_b1 ht' t'
  rintro t H n ⟨b2, f2, f3, b_b1, l_b1, b_b2, l_b2, d_b1_b2⟩
  refine Stk.run 2 (fun t H n => t 2 = .own b1 0 ∧ t 3 = .own b2 0 ∧ H b1 = some (.cells (c97 a0) 97) ∧ b1 < n ∧ H b2 = some (.cells (c45 a1) 45) ∧ b2 < n ∧ b1 ≠ b2) (fun J hJ => ?_) ?_
  · simp [-splice, f2, f3, b_b1, b_b2]
    exact hJ _ _ _ ⟨by simp [f2], by simp [f3], b_b1, l_b1, b_b2, l_b2, d_b1_b2⟩
  clear f2 f3 b_b1 l_b1 b_b2 l_b2 d_b1_b2
  rintro t H n ⟨f2, f3, b_b1, l_b1, b_b2, l_b2, d_b1_b2⟩
  refine Stk.on ?_
  refine Stk.sq ?_
  refine Stk.rg ?_
  refine Stk.run 2 (fun t H n => t 2 = .own b1 0 ∧ t 6 = .fn (.func 87) [] [.own b2 0] ∧ H b1 = some (.cells (c97 a0) 97) ∧ b1 < n ∧ H b2 = some (.cells (c45 a1) 45) ∧ b2 < n ∧ b1 ≠ b2) (fun J hJ => ?_) ?_
  · simp [-splice, f2, f3, b_b1, b_b2]
    exact hJ _ _ _ ⟨by simp [f2], by simp [-splice, f2, f3, b_b1, b_b2], b_b1, l_b1, b_b2, l_b2, d_b1_b2⟩
  clear f2 f3 b_b1 l_b1 b_b2 l_b2 d_b1_b2
  rintro t H n ⟨f2, f6, b_b1, l_b1, b_b2, l_b2, d_b1_b2⟩
  refine Stk.on ?_
  refine Stk.sq ?_
  refine Stk.sq ?_
  refine Stk.rg ?_
  refine Stk.run 3 (fun t H n => t 2 = .own b1 0 ∧ t 6 = .fn (.func 87) [] [.own b2 0] ∧ t 14 = .agg (c95 a0.Exps) ∧ t 15 = .sc (.int .i64 0) ∧ H b1 = some (.cells (c97 a0) 97) ∧ b1 < n ∧ H b2 = some (.cells (c45 a1) 45) ∧ b2 < n ∧ b1 ≠ b2) (fun J hJ => ?_) ?_
  · simp [-splice, f2, f6, b_b1, b_b2, ld_97_0_95]
    exact hJ _ _ _ ⟨by simp [f2], by simp [f6], by simp [-splice, f2, f6, b_b1, b_b2, ld_97_0_95], by simp [-splice, f2, f6, b_b1, b_b2, ld_97_0_95], b_b1, l_b1, b_b2, l_b2, d_b1_b2⟩
  clear f2 f6 b_b1 l_b1 b_b2 l_b2 d_b1_b2
  rintro t H n ⟨f2, f6, f14, f15, b_b1, l_b1, b_b2, l_b2, d_b1_b2⟩
  refine Stk.on ?_
  obtain ⟨K1, hK1, h⟩ := jnd h
  refine Stk.jn (fun t H n => K1 () = some r ∧ t 2 = .own b1 0 ∧ t 6 = .fn (.func 87) [] [.own b2 0] ∧ H b1 = some (.cells (c97 a0) 97) ∧ b1 < n ∧ H b2 = some (.cells (c45 a1) 45) ∧ b2 < n ∧ b1 ≠ b2) trivial (fun J1 hJ1 => ?_) ?_
  · skip
    refine Stk.bk ?_
    refine Stk.lo (fun μ t H n => ∃ v3 : Int, poly_valued_L0 F a0 a1 K1 μ v3 = some r ∧ t 2 = .own b1 0 ∧ t 6 = .fn (.func 87) [] [.own b2 0] ∧ t 14 = .agg (c95 a0.Exps) ∧ t 15 = .sc (.int .i64 v3) ∧ H b1 = some (.cells (c97 a0) 97) ∧ b1 < n ∧ H b2 = some (.cells (c45 a1) 45) ∧ b2 < n ∧ b1 ≠ b2) F ⟨0, h, f2, f6, f14, f15, b_b1, l_b1, b_b2, l_b2, d_b1_b2⟩ ?_
    clear h f2 f6 f14 f15 b_b1 l_b1 b_b2 l_b2 d_b1_b2
    rintro J2 hJ2 μ t H n ⟨v3, h, f2, f6, f14, f15, b_b1, l_b1, b_b2, l_b2, d_b1_b2⟩
    cases μ with
    | zero => exact absurd h (by simp [poly_valued_L0])
    | succ μ =>
    rw [poly_valued_L0] at h
    refine Stk.sq ?_
    refine Stk.rg ?_
    refine Stk.run 1 (fun t H n => t 2 = .own b1 0 ∧ t 6 = .fn (.func 87) [] [.own b2 0] ∧ t 14 = .agg (c95 a0.Exps) ∧ t 15 = .sc (.int .i64 v3) ∧ t 16 = .sc (.bool (decide (v3 < 12))) ∧ H b1 = some (.cells (c97 a0) 97) ∧ b1 < n ∧ H b2 = some (.cells (c45 a1) 45) ∧ b2 < n ∧ b1 ≠ b2) (fun J hJ => ?_) ?_
    · simp [-splice, f2, f6, f14, f15, b_b1, b_b2]
      exact hJ _ _ _ ⟨by simp [f2], by simp [f6], by simp [f14], by simp [f15], by simp [-splice, f2, f6, f14, f15, b_b1, b_b2], b_b1, l_b1, b_b2, l_b2, d_b1_b2⟩
    clear f2 f6 f14 f15 b_b1 l_b1 b_b2 l_b2 d_b1_b2
    rintro t H n ⟨f2, f6, f14, f15, f16, b_b1, l_b1, b_b2, l_b2, d_b1_b2⟩
    refine Stk.on ?_
    refine Stk.sq ?_
    refine Stk.cond (decide (v3 < 12)) (by exact f16) (fun hb5 => ?_) (fun hb5 => ?_)
    · have h := cT hb5 h
      refine Stk.sk ?_
      refine Stk.sq ?_
      refine Stk.bk ?_
      refine Stk.sq ?_
      refine Stk.rg ?_
      obtain ⟨x6, hx6, h⟩ := bnd h
      obtain ⟨i0x6, i1x6, i2x6, _⟩ := idx_ok hx6
      have i3x6 : v3 < 12 := by rw [a0.Exps.2] at i1x6; exact i1x6
      have i4x6 : v3.toNat < 12 := by omega
      have qx6 : partOf T.T 5 (c95 a0.Exps) (v3.toNat) = some (.sc (.int .u8 x6)) := by
        rw [c95]
        have e0 := part_elem0 (e := c5) (z := 1) (T := T.T) (ty := 5) T.t5 (by decide) (by decide) hx6 0 (by decide)
        (try simp only [Nat.mul_one, Nat.add_zero] at e0)
        exact e0.trans rfl
      refine Stk.run 4 (fun t H n => t 2 = .own b1 0 ∧ t 6 = .fn (.func 87) [] [.own b2 0] ∧ t 7 = .sc (.int .i64 v3) ∧ t 8 = .sc (.int .u8 x6) ∧ t 14 = .agg (c95 a0.Exps) ∧ t 15 = .sc (.int .i64 v3) ∧ H b1 = some (.cells (c97 a0) 97) ∧ b1 < n ∧ H b2 = some (.cells (c45 a1) 45) ∧ b2 < n ∧ b1 ≠ b2) (fun J hJ => ?_) ?_
      · simp [-splice, f2, f6, f14, f15, f16, b_b1, b_b2, i0x6, i1x6, i3x6, i4x6, qx6]
        exact hJ _ _ _ ⟨by simp [f2], by simp [f6], by simp [-splice, f2, f6, f14, f15, f16, b_b1, b_b2, i0x6, i1x6, i3x6, i4x6, qx6], by simp [-splice, f2, f6, f14, f15, f16, b_b1, b_b2, i0x6, i1x6, i3x6, i4x6, qx6], by simp [f14], by simp [f15], b_b1, l_b1, b_b2, l_b2, d_b1_b2⟩
      clear f2 f6 f14 f15 f16 b_b1 l_b1 b_b2 l_b2 d_b1_b2
      rintro t H n ⟨f2, f6, f7, f8, f14, f15, b_b1, l_b1, b_b2, l_b2, d_b1_b2⟩
      refine Stk.on ?_
      refine Stk.sq ?_
      refine Stk.rg ?_
      refine Stk.run 3 (fun t H n => t 2 = .own b1 0 ∧ t 6 = .fn (.func 87) [] [.own b2 0] ∧ t 7 = .sc (.int .i64 v3) ∧ t 14 = .agg (c95 a0.Exps) ∧ t 15 = .sc (.int .i64 v3) ∧ t 21 = .sc (.bool (decide (0 < x6))) ∧ H b1 = some (.cells (c97 a0) 97) ∧ b1 < n ∧ H b2 = some (.cells (c45 a1) 45) ∧ b2 < n ∧ b1 ≠ b2) (fun J hJ => ?_) ?_
      · simp [-splice, f2, f6, f7, f8, f14, f15, b_b1, b_b2]
        exact hJ _ _ _ ⟨by simp [f2], by simp [f6], by simp [f7], by simp [f14], by simp [f15], by simp [-splice, f2, f6, f7, f8, f14, f15, b_b1, b_b2], b_b1, l_b1, b_b2, l_b2, d_b1_b2⟩
      clear f2 f6 f7 f8 f14 f15 b_b1 l_b1 b_b2 l_b2 d_b1_b2
      rintro t H n ⟨f2, f6, f7, f14, f15, f21, b_b1, l_b1, b_b2, l_b2, d_b1_b2⟩
      obtain ⟨K3, hK3, h⟩ := jnd h
      refine Stk.jo 5 (fun t H n => ∃ v7 : Bool, K3 v7 = some r ∧ t 2 = .own b1 0 ∧ t 6 = .fn (.func 87) [] [.own b2 0] ∧ t 14 = .agg (c95 a0.Exps) ∧ t 15 = .sc (.int .i64 v3) ∧ t 26 = .sc (.bool v7) ∧ H b1 = some (.cells (c97 a0) 97) ∧ b1 < n ∧ H b2 = some (.cells (c45 a1) 45) ∧ b2 < n ∧ b1 ≠ b2) (fun J3 hJ3 => ?_) ?_
      · rcases Bool.eq_false_or_eq_true (decide (0 < x6)) with hb3 | hb3
        · rw [hb3] at f21
          replace h := cT hb3 h
          refine Stk.run 2 (fun t H n => t 2 = .own b1 0 ∧ t 6 = .fn (.func 87) [] [.own b2 0] ∧ t 14 = .agg (c95 a0.Exps) ∧ t 15 = .sc (.int .i64 v3) ∧ t 21 = .sc (.bool true) ∧ t 22 = .fn (.func 87) [] [.own b2 0] ∧ t 23 = .sc (.int .i64 v3) ∧ H b1 = some (.cells (c97 a0) 97) ∧ b1 < n ∧ H b2 = some (.cells (c45 a1) 45) ∧ b2 < n ∧ b1 ≠ b2) (fun J hJ => ?_) ?_
          · simp [-splice, f2, f6, f7, f14, f15, f21, b_b1, b_b2]
            exact hJ _ _ _ ⟨by simp [f2], by simp [f6], by simp [f14], by simp [f15], by simp [f21], by simp [-splice, f2, f6, f7, f14, f15, f21, b_b1, b_b2], by simp [-splice, f2, f6, f7, f14, f15, f21, b_b1, b_b2], b_b1, l_b1, b_b2, l_b2, d_b1_b2⟩
          clear f2 f6 f7 f14 f15 f21 b_b1 l_b1 b_b2 l_b2 d_b1_b2
          rintro t H n ⟨f2, f6, f14, f15, f21, f22, f23, b_b1, l_b1, b_b2, l_b2, d_b1_b2⟩
          obtain ⟨x8, hx8, h⟩ := bnd h
          refine Stk.cv (g := 87) (args := [.sc (.int .i64 v3), .own b2 0]) (args' := [.sc (.int .i64 v3), .sh (c45 a1)]) (v := .sc (.int .i64 x8)) [b2] (ok_poly_valued_1 F _ _ _ hx8) (by simp [f2, f6, f14, f15, f21, f22, f23]) rfl f22 (by simp [f2, f6, f14, f15, f21, f22, f23]) (.cons (.free (rfl)) (.cons (view_blk b_b2 (by simp) (fr45 _)) (.nil))) (.inr rfl) (fun t' ht' => ?_)
          refine Stk.gen (fun t H n => t 2 = .own b1 0 ∧ t 6 = .fn (.func 87) [] [.own b2 0] ∧ t 14 = .agg (c95 a0.Exps) ∧ t 15 = .sc (.int .i64 v3) ∧ t 21 = .sc (.bool true) ∧ t 24 = .sc (.int .i64 x8) ∧ H b1 = some (.cells (c97 a0) 97) ∧ b1 < n ∧ H b2 = some (.cells (c45 a1) 45) ∧ b2 < n ∧ b1 ≠ b2) ⟨by simp [ht', f2], by simp [ht', f6], by simp [ht', f14], by simp [ht', f15], by simp [ht', f21], by simp [ht'], b_b1, l_b1, b_b2, l_b2, d_b1_b2⟩ ?_
          clear f2 f6 f14 f15 f21 f22 f23 b_b1 l_b1 b_b2 l_b2 d_b1_b2 ht' t'
          rintro t H n ⟨f2, f6, f14, f15, f21, f24, b_b1, l_b1, b_b2, l_b2, d_b1_b2⟩
          refine Stk.run 2 (fun t H n => t 2 = .own b1 0 ∧ t 6 = .fn (.func 87) [] [.own b2 0] ∧ t 14 = .agg (c95 a0.Exps) ∧ t 15 = .sc (.int .i64 v3) ∧ t 26 = .sc (.bool (x8 == 0)) ∧ H b1 = some (.cells (c97 a0) 97) ∧ b1 < n ∧ H b2 = some (.cells (c45 a1) 45) ∧ b2 < n ∧ b1 ≠ b2) (fun J hJ => ?_) ?_
          · simp [-splice, f2, f6, f14, f15, f21, f24, b_b1, b_b2]
            exact hJ _ _ _ ⟨by simp [f2], by simp [f6], by simp [f14], by simp [f15], by simp [-splice, f2, f6, f14, f15, f21, f24, b_b1, b_b2], b_b1, l_b1, b_b2, l_b2, d_b1_b2⟩
          clear f2 f6 f14 f15 f21 f24 b_b1 l_b1 b_b2 l_b2 d_b1_b2
          rintro t H n ⟨f2, f6, f14, f15, f26, b_b1, l_b1, b_b2, l_b2, d_b1_b2⟩
          refine Stk.on ?_
          exact Stk.ln 0 (by decide) (hJ3 _ _ _ ⟨(x8 == 0), h, f2, f6, f14, f15, f26, b_b1, l_b1, b_b2, l_b2, d_b1_b2⟩)
        · rw [hb3] at f21
          replace h := cF hb3 h
          refine Stk.run 5 (fun t H n => t 2 = .own b1 0 ∧ t 6 = .fn (.func 87) [] [.own b2 0] ∧ t 14 = .agg (c95 a0.Exps) ∧ t 15 = .sc (.int .i64 v3) ∧ t 26 = .sc (.bool false) ∧ H b1 = some (.cells (c97 a0) 97) ∧ b1 < n ∧ H b2 = some (.cells (c45 a1) 45) ∧ b2 < n ∧ b1 ≠ b2) (fun J hJ => ?_) ?_
          · simp [-splice, f2, f6, f7, f14, f15, f21, b_b1, b_b2]
            exact hJ _ _ _ ⟨by simp [f2], by simp [f6], by simp [f14], by simp [f15], by simp [-splice, f2, f6, f7, f14, f15, f21, b_b1, b_b2], b_b1, l_b1, b_b2, l_b2, d_b1_b2⟩
          clear f2 f6 f7 f14 f15 f21 b_b1 l_b1 b_b2 l_b2 d_b1_b2
          rintro t H n ⟨f2, f6, f14, f15, f26, b_b1, l_b1, b_b2, l_b2, d_b1_b2⟩
          refine Stk.on ?_
          exact Stk.ln 0 (by decide) (hJ3 _ _ _ ⟨false, h, f2, f6, f14, f15, f26, b_b1, l_b1, b_b2, l_b2, d_b1_b2⟩)
      clear h f2 f6 f7 f14 f15 f21 b_b1 l_b1 b_b2 l_b2 d_b1_b2
      rintro t H n ⟨v7, h, f2, f6, f14, f15, f26, b_b1, l_b1, b_b2, l_b2, d_b1_b2⟩
      subst hK3
      refine Stk.on ?_
      refine Stk.cond v7 (by exact f26) (fun hb9 => ?_) (fun hb9 => ?_)
      · have h := cT hb9 h
        refine Stk.sq ?_
        refine Stk.rg ?_
        refine Stk.run 2 (fun t H n => t 4 = .sc (.int .i64 0) ∧ t 5 = .sc (.bool true)) (fun J hJ => ?_) ?_
        · simp [-splice, f2, f6, f14, f15, f26, b_b1, b_b2]
          exact hJ _ _ _ ⟨by simp [-splice, f2, f6, f14, f15, f26, b_b1, b_b2], by simp [-splice, f2, f6, f14, f15, f26, b_b1, b_b2]⟩
        clear f2 f6 f14 f15 f26 b_b1 l_b1 b_b2 l_b2 d_b1_b2
        rintro t H n ⟨f4, f5⟩
        refine Stk.on ?_
        refine Stk.rt ?_
        have hq := Option.some.inj h; subst hq
        exact (hr _ _ _ (.tup [.sc (.int .i64 0), .sc (.bool true)]) ([]) (by simp [f4, f5]) (.inr (.inr (.tup (.cons (.free (rfl)) (.cons (.free (rfl)) (.nil))))))).1
      · have h := cF hb9 h
        refine Stk.sk ?_
        refine Stk.bn ?_
        refine Stk.rg ?_
        refine Stk.run 2 (fun t H n => t 2 = .own b1 0 ∧ t 6 = .fn (.func 87) [] [.own b2 0] ∧ t 14 = .agg (c95 a0.Exps) ∧ t 15 = .sc (.int .i64 (IntKind.i64.wrap (v3 + 1))) ∧ H b1 = some (.cells (c97 a0) 97) ∧ b1 < n ∧ H b2 = some (.cells (c45 a1) 45) ∧ b2 < n ∧ b1 ≠ b2) (fun J hJ => ?_) ?_
        · simp [-splice, f2, f6, f14, f15, f26, b_b1, b_b2]
          exact hJ _ _ _ ⟨by simp [f2], by simp [f6], by simp [f14], by simp [-splice, f2, f6, f14, f15, f26, b_b1, b_b2], b_b1, l_b1, b_b2, l_b2, d_b1_b2⟩
        clear f2 f6 f14 f15 f26 b_b1 l_b1 b_b2 l_b2 d_b1_b2
        rintro t H n ⟨f2, f6, f14, f15, b_b1, l_b1, b_b2, l_b2, d_b1_b2⟩
        refine Stk.on ?_
        exact Stk.ln μ (Nat.lt_succ_self _) (hJ2 _ _ _ _ ⟨(IntKind.i64.wrap (v3 + 1)), h, f2, f6, f14, f15, b_b1, l_b1, b_b2, l_b2, d_b1_b2⟩)
    · have h := cF hb5 h
      refine Stk.ex rfl ?_
      exact Stk.ln 0 (by decide) (hJ1 _ _ _ ⟨h, f2, f6, b_b1, l_b1, b_b2, l_b2, d_b1_b2⟩)
  clear h f2 f6 f14 f15 b_b1 l_b1 b_b2 l_b2 d_b1_b2
  rintro t H n ⟨h, f2, f6, b_b1, l_b1, b_b2, l_b2, d_b1_b2⟩
  subst hK1
  refine Stk.sq ?_
  refine Stk.rg ?_
  refine Stk.run 3 (fun t H n => t 2 = .own b1 0 ∧ t 6 = .fn (.func 87) [] [.own b2 0] ∧ t 9 = .sc (.int .i64 a0.Coef) ∧ H b1 = some (.cells (c97 a0) 97) ∧ b1 < n ∧ H b2 = some (.cells (c45 a1) 45) ∧ b2 < n ∧ b1 ≠ b2) (fun J hJ => ?_) ?_
  · simp [-splice, f2, f6, b_b1, b_b2, ld_97_12_2]
    exact hJ _ _ _ ⟨by simp [f2], by simp [f6], by simp [-splice, f2, f6, b_b1, b_b2, ld_97_12_2], b_b1, l_b1, b_b2, l_b2, d_b1_b2⟩
  clear f2 f6 b_b1 l_b1 b_b2 l_b2 d_b1_b2
  rintro t H n ⟨f2, f6, f9, b_b1, l_b1, b_b2, l_b2, d_b1_b2⟩
  refine Stk.on ?_
  refine Stk.sq ?_
  refine Stk.sq ?_
  refine Stk.rg ?_
  refine Stk.run 3 (fun t H n => t 6 = .fn (.func 87) [] [.own b2 0] ∧ t 9 = .sc (.int .i64 a0.Coef) ∧ t 31 = .agg (c95 a0.Exps) ∧ t 32 = .sc (.int .i64 0) ∧ H b2 = some (.cells (c45 a1) 45) ∧ b2 < n) (fun J hJ => ?_) ?_
  · simp [-splice, f2, f6, f9, b_b1, b_b2, ld_97_0_95]
    exact hJ _ _ _ ⟨by simp [f6], by simp [f9], by simp [-splice, f2, f6, f9, b_b1, b_b2, ld_97_0_95], by simp [-splice, f2, f6, f9, b_b1, b_b2, ld_97_0_95], b_b2, l_b2⟩
  clear f2 f6 f9 b_b1 l_b1 b_b2 l_b2 d_b1_b2
  rintro t H n ⟨f6, f9, f31, f32, b_b2, l_b2⟩
  refine Stk.on ?_
  refine Stk.bk ?_
  refine Stk.lo (fun μ t H n => ∃ v10 : Int, ∃ v11 : Int, poly_valued_L1 F a0 a1 μ v10 v11 = some r ∧ t 6 = .fn (.func 87) [] [.own b2 0] ∧ t 9 = .sc (.int .i64 v10) ∧ t 31 = .agg (c95 a0.Exps) ∧ t 32 = .sc (.int .i64 v11) ∧ H b2 = some (.cells (c45 a1) 45) ∧ b2 < n) F ⟨a0.Coef, 0, h, f6, f9, f31, f32, b_b2, l_b2⟩ ?_
  clear h f6 f9 f31 f32 b_b2 l_b2
  rintro J4 hJ4 μ t H n ⟨v10, v11, h, f6, f9, f31, f32, b_b2, l_b2⟩
  cases μ with
  | zero => exact absurd h (by simp [poly_valued_L1])
  | succ μ =>
  rw [poly_valued_L1] at h
  refine Stk.sq ?_
  refine Stk.rg ?_
  refine Stk.run 1 (fun t H n => t 6 = .fn (.func 87) [] [.own b2 0] ∧ t 9 = .sc (.int .i64 v10) ∧ t 31 = .agg (c95 a0.Exps) ∧ t 32 = .sc (.int .i64 v11) ∧ t 33 = .sc (.bool (decide (v11 < 12))) ∧ H b2 = some (.cells (c45 a1) 45) ∧ b2 < n) (fun J hJ => ?_) ?_
  · simp [-splice, f6, f9, f31, f32, b_b2]
    exact hJ _ _ _ ⟨by simp [f6], by simp [f9], by simp [f31], by simp [f32], by simp [-splice, f6, f9, f31, f32, b_b2], b_b2, l_b2⟩
  clear f6 f9 f31 f32 b_b2 l_b2
  rintro t H n ⟨f6, f9, f31, f32, f33, b_b2, l_b2⟩
  refine Stk.on ?_
  refine Stk.sq ?_
  refine Stk.cond (decide (v11 < 12)) (by exact f33) (fun hb14 => ?_) (fun hb14 => ?_)
  · have h := cT hb14 h
    refine Stk.sk ?_
    refine Stk.sq ?_
    refine Stk.bk ?_
    refine Stk.sq ?_
    refine Stk.rg ?_
    obtain ⟨x15, hx15, h⟩ := bnd h
    obtain ⟨i0x15, i1x15, i2x15, _⟩ := idx_ok hx15
    have i3x15 : v11 < 12 := by rw [a0.Exps.2] at i1x15; exact i1x15
    have i4x15 : v11.toNat < 12 := by omega
    have qx15 : partOf T.T 5 (c95 a0.Exps) (v11.toNat) = some (.sc (.int .u8 x15)) := by
      rw [c95]
      have e0 := part_elem0 (e := c5) (z := 1) (T := T.T) (ty := 5) T.t5 (by decide) (by decide) hx15 0 (by decide)
      (try simp only [Nat.mul_one, Nat.add_zero] at e0)
      exact e0.trans rfl
    refine Stk.run 4 (fun t H n => t 6 = .fn (.func 87) [] [.own b2 0] ∧ t 9 = .sc (.int .i64 v10) ∧ t 10 = .sc (.int .i64 v11) ∧ t 11 = .sc (.int .u8 x15) ∧ t 31 = .agg (c95 a0.Exps) ∧ t 32 = .sc (.int .i64 v11) ∧ H b2 = some (.cells (c45 a1) 45) ∧ b2 < n) (fun J hJ => ?_) ?_
    · simp [-splice, f6, f9, f31, f32, f33, b_b2, i0x15, i1x15, i3x15, i4x15, qx15]
      exact hJ _ _ _ ⟨by simp [f6], by simp [f9], by simp [-splice, f6, f9, f31, f32, f33, b_b2, i0x15, i1x15, i3x15, i4x15, qx15], by simp [-splice, f6, f9, f31, f32, f33, b_b2, i0x15, i1x15, i3x15, i4x15, qx15], by simp [f31], by simp [f32], b_b2, l_b2⟩
    clear f6 f9 f31 f32 f33 b_b2 l_b2
    rintro t H n ⟨f6, f9, f10, f11, f31, f32, b_b2, l_b2⟩
    refine Stk.on ?_
    refine Stk.sq ?_
    refine Stk.rg ?_
    refine Stk.run 2 (fun t H n => t 6 = .fn (.func 87) [] [.own b2 0] ∧ t 9 = .sc (.int .i64 v10) ∧ t 10 = .sc (.int .i64 v11) ∧ t 31 = .agg (c95 a0.Exps) ∧ t 32 = .sc (.int .i64 v11) ∧ t 36 = .sc (.int .u8 x15) ∧ t 37 = .sc (.int .u8 0) ∧ H b2 = some (.cells (c45 a1) 45) ∧ b2 < n) (fun J hJ => ?_) ?_
    · simp [-splice, f6, f9, f10, f11, f31, f32, b_b2]
      exact hJ _ _ _ ⟨by simp [f6], by simp [f9], by simp [f10], by simp [f31], by simp [f32], by simp [-splice, f6, f9, f10, f11, f31, f32, b_b2], by simp [-splice, f6, f9, f10, f11, f31, f32, b_b2], b_b2, l_b2⟩
    clear f6 f9 f10 f11 f31 f32 b_b2 l_b2
    rintro t H n ⟨f6, f9, f10, f31, f32, f36, f37, b_b2, l_b2⟩
    refine Stk.on ?_
    obtain ⟨K5, hK5, h⟩ := jnd h
    refine Stk.jn (fun t H n => ∃ v16 : Int, K5 v16 = some r ∧ t 6 = .fn (.func 87) [] [.own b2 0] ∧ t 9 = .sc (.int .i64 v16) ∧ t 31 = .agg (c95 a0.Exps) ∧ t 32 = .sc (.int .i64 v11) ∧ H b2 = some (.cells (c45 a1) 45) ∧ b2 < n) trivial (fun J5 hJ5 => ?_) ?_
    · skip
      refine Stk.bk ?_
      refine Stk.lo (fun μ t H n => ∃ v17 : Int, ∃ v18 : Int, poly_valued_L2 F a1 v11 x15 K5 μ v17 v18 = some r ∧ t 6 = .fn (.func 87) [] [.own b2 0] ∧ t 9 = .sc (.int .i64 v17) ∧ t 10 = .sc (.int .i64 v11) ∧ t 31 = .agg (c95 a0.Exps) ∧ t 32 = .sc (.int .i64 v11) ∧ t 36 = .sc (.int .u8 x15) ∧ t 37 = .sc (.int .u8 v18) ∧ H b2 = some (.cells (c45 a1) 45) ∧ b2 < n) F ⟨v10, 0, h, f6, f9, f10, f31, f32, f36, f37, b_b2, l_b2⟩ ?_
      clear h f6 f9 f10 f31 f32 f36 f37 b_b2 l_b2
      rintro J6 hJ6 μ t H n ⟨v17, v18, h, f6, f9, f10, f31, f32, f36, f37, b_b2, l_b2⟩
      cases μ with
      | zero => exact absurd h (by simp [poly_valued_L2])
      | succ μ =>
      rw [poly_valued_L2] at h
      refine Stk.sq ?_
      refine Stk.rg ?_
      refine Stk.run 1 (fun t H n => t 6 = .fn (.func 87) [] [.own b2 0] ∧ t 9 = .sc (.int .i64 v17) ∧ t 10 = .sc (.int .i64 v11) ∧ t 31 = .agg (c95 a0.Exps) ∧ t 32 = .sc (.int .i64 v11) ∧ t 36 = .sc (.int .u8 x15) ∧ t 37 = .sc (.int .u8 v18) ∧ t 38 = .sc (.bool (decide (v18 < x15))) ∧ H b2 = some (.cells (c45 a1) 45) ∧ b2 < n) (fun J hJ => ?_) ?_
      · simp [-splice, f6, f9, f10, f31, f32, f36, f37, b_b2]
        exact hJ _ _ _ ⟨by simp [f6], by simp [f9], by simp [f10], by simp [f31], by simp [f32], by simp [f36], by simp [f37], by simp [-splice, f6, f9, f10, f31, f32, f36, f37, b_b2], b_b2, l_b2⟩
      clear f6 f9 f10 f31 f32 f36 f37 b_b2 l_b2
      rintro t H n ⟨f6, f9, f10, f31, f32, f36, f37, f38, b_b2, l_b2⟩
      refine Stk.on ?_
      refine Stk.sq ?_
      refine Stk.cond (decide (v18 < x15)) (by exact f38) (fun hb21 => ?_) (fun hb21 => ?_)
      · have h := cT hb21 h
        refine Stk.sk ?_
        refine Stk.sq ?_
        refine Stk.bk ?_
        refine Stk.sq ?_
        refine Stk.sq ?_
        refine Stk.rg ?_
        refine Stk.run 3 (fun t H n => t 6 = .fn (.func 87) [] [.own b2 0] ∧ t 9 = .sc (.int .i64 v17) ∧ t 10 = .sc (.int .i64 v11) ∧ t 31 = .agg (c95 a0.Exps) ∧ t 32 = .sc (.int .i64 v11) ∧ t 36 = .sc (.int .u8 x15) ∧ t 37 = .sc (.int .u8 v18) ∧ t 39 = .sc (.int .i64 v17) ∧ t 40 = .fn (.func 87) [] [.own b2 0] ∧ t 41 = .sc (.int .i64 v11) ∧ H b2 = some (.cells (c45 a1) 45) ∧ b2 < n) (fun J hJ => ?_) ?_
        · simp [-splice, f6, f9, f10, f31, f32, f36, f37, f38, b_b2]
          exact hJ _ _ _ ⟨by simp [f6], by simp [f9], by simp [f10], by simp [f31], by simp [f32], by simp [f36], by simp [f37], by simp [-splice, f6, f9, f10, f31, f32, f36, f37, f38, b_b2], by simp [-splice, f6, f9, f10, f31, f32, f36, f37, f38, b_b2], by simp [-splice, f6, f9, f10, f31, f32, f36, f37, f38, b_b2], b_b2, l_b2⟩
        clear f6 f9 f10 f31 f32 f36 f37 f38 b_b2 l_b2
        rintro t H n ⟨f6, f9, f10, f31, f32, f36, f37, f39, f40, f41, b_b2, l_b2⟩
        obtain ⟨x22, hx22, h⟩ := bnd h
        refine Stk.cv (g := 87) (args := [.sc (.int .i64 v11), .own b2 0]) (args' := [.sc (.int .i64 v11), .sh (c45 a1)]) (v := .sc (.int .i64 x22)) [b2] (ok_poly_valued_1 F _ _ _ hx22) (by simp [f6, f9, f10, f31, f32, f36, f37, f39, f40, f41]) rfl f40 (by simp [f6, f9, f10, f31, f32, f36, f37, f39, f40, f41]) (.cons (.free (rfl)) (.cons (view_blk b_b2 (by simp) (fr45 _)) (.nil))) (.inr rfl) (fun t' ht' => ?_)
        refine Stk.gen (fun t H n => t 6 = .fn (.func 87) [] [.own b2 0] ∧ t 9 = .sc (.int .i64 v17) ∧ t 10 = .sc (.int .i64 v11) ∧ t 31 = .agg (c95 a0.Exps) ∧ t 32 = .sc (.int .i64 v11) ∧ t 36 = .sc (.int .u8 x15) ∧ t 37 = .sc (.int .u8 v18) ∧ t 39 = .sc (.int .i64 v17) ∧ t 42 = .sc (.int .i64 x22) ∧ H b2 = some (.cells (c45 a1) 45) ∧ b2 < n) ⟨by simp [ht', f6], by simp [ht', f9], by simp [ht', f10], by simp [ht', f31], by simp [ht', f32], by simp [ht', f36], by simp [ht', f37], by simp [ht', f39], by simp [ht'], b_b2, l_b2⟩ ?_
        clear f6 f9 f10 f31 f32 f36 f37 f39 f40 f41 b_b2 l_b2 ht' t'
        rintro t H n ⟨f6, f9, f10, f31, f32, f36, f37, f39, f42, b_b2, l_b2⟩
        obtain ⟨x23, hx23, h⟩ := bnd h
        obtain ⟨nx23, ex23⟩ := quoM_ok hx23
        refine Stk.run 2 (fun t H n => t 6 = .fn (.func 87) [] [.own b2 0] ∧ t 9 = .sc (.int .i64 v17) ∧ t 10 = .sc (.int .i64 v11) ∧ t 31 = .agg (c95 a0.Exps) ∧ t 32 = .sc (.int .i64 v11) ∧ t 36 = .sc (.int .u8 x15) ∧ t 37 = .sc (.int .u8 v18) ∧ t 44 = .sc (.bool (decide (x23 < v17))) ∧ H b2 = some (.cells (c45 a1) 45) ∧ b2 < n) (fun J hJ => ?_) ?_
        · simp [-splice, f6, f9, f10, f31, f32, f36, f37, f39, f42, b_b2, nx23, ex23]
          exact hJ _ _ _ ⟨by simp [f6], by simp [f9], by simp [f10], by simp [f31], by simp [f32], by simp [f36], by simp [f37], by simp [-splice, f6, f9, f10, f31, f32, f36, f37, f39, f42, b_b2, nx23, ex23], b_b2, l_b2⟩
        clear f6 f9 f10 f31 f32 f36 f37 f39 f42 b_b2 l_b2
        rintro t H n ⟨f6, f9, f10, f31, f32, f36, f37, f44, b_b2, l_b2⟩
        refine Stk.on ?_
        refine Stk.cond (decide (x23 < v17)) (by exact f44) (fun hb24 => ?_) (fun hb24 => ?_)
        · have h := cT hb24 h
          refine Stk.sq ?_
          refine Stk.rg ?_
          refine Stk.run 2 (fun t H n => t 4 = .sc (.int .i64 0) ∧ t 5 = .sc (.bool false)) (fun J hJ => ?_) ?_
          · simp [-splice, f6, f9, f10, f31, f32, f36, f37, f44, b_b2]
            exact hJ _ _ _ ⟨by simp [-splice, f6, f9, f10, f31, f32, f36, f37, f44, b_b2], by simp [-splice, f6, f9, f10, f31, f32, f36, f37, f44, b_b2]⟩
          clear f6 f9 f10 f31 f32 f36 f37 f44 b_b2 l_b2
          rintro t H n ⟨f4, f5⟩
          refine Stk.on ?_
          refine Stk.rt ?_
          have hq := Option.some.inj h; subst hq
          exact (hr _ _ _ (.tup [.sc (.int .i64 0), .sc (.bool false)]) ([]) (by simp [f4, f5]) (.inr (.inr (.tup (.cons (.free (rfl)) (.cons (.free (rfl)) (.nil))))))).1
        · have h := cF hb24 h
          refine Stk.sk ?_
          refine Stk.rg ?_
          refine Stk.run 3 (fun t H n => t 6 = .fn (.func 87) [] [.own b2 0] ∧ t 10 = .sc (.int .i64 v11) ∧ t 31 = .agg (c95 a0.Exps) ∧ t 32 = .sc (.int .i64 v11) ∧ t 36 = .sc (.int .u8 x15) ∧ t 37 = .sc (.int .u8 v18) ∧ t 45 = .sc (.int .i64 v17) ∧ t 46 = .fn (.func 87) [] [.own b2 0] ∧ t 47 = .sc (.int .i64 v11) ∧ H b2 = some (.cells (c45 a1) 45) ∧ b2 < n) (fun J hJ => ?_) ?_
          · simp [-splice, f6, f9, f10, f31, f32, f36, f37, f44, b_b2]
            exact hJ _ _ _ ⟨by simp [f6], by simp [f10], by simp [f31], by simp [f32], by simp [f36], by simp [f37], by simp [-splice, f6, f9, f10, f31, f32, f36, f37, f44, b_b2], by simp [-splice, f6, f9, f10, f31, f32, f36, f37, f44, b_b2], by simp [-splice, f6, f9, f10, f31, f32, f36, f37, f44, b_b2], b_b2, l_b2⟩
          clear f6 f9 f10 f31 f32 f36 f37 f44 b_b2 l_b2
          rintro t H n ⟨f6, f10, f31, f32, f36, f37, f45, f46, f47, b_b2, l_b2⟩
          obtain ⟨x25, hx25, h⟩ := bnd h
          refine Stk.cv (g := 87) (args := [.sc (.int .i64 v11), .own b2 0]) (args' := [.sc (.int .i64 v11), .sh (c45 a1)]) (v := .sc (.int .i64 x25)) [b2] (ok_poly_valued_1 F _ _ _ hx25) (by simp [f6, f10, f31, f32, f36, f37, f45, f46, f47]) rfl f46 (by simp [f6, f10, f31, f32, f36, f37, f45, f46, f47]) (.cons (.free (rfl)) (.cons (view_blk b_b2 (by simp) (fr45 _)) (.nil))) (.inr rfl) (fun t' ht' => ?_)
          refine Stk.gen (fun t H n => t 6 = .fn (.func 87) [] [.own b2 0] ∧ t 10 = .sc (.int .i64 v11) ∧ t 31 = .agg (c95 a0.Exps) ∧ t 32 = .sc (.int .i64 v11) ∧ t 36 = .sc (.int .u8 x15) ∧ t 37 = .sc (.int .u8 v18) ∧ t 45 = .sc (.int .i64 v17) ∧ t 48 = .sc (.int .i64 x25) ∧ H b2 = some (.cells (c45 a1) 45) ∧ b2 < n) ⟨by simp [ht', f6], by simp [ht', f10], by simp [ht', f31], by simp [ht', f32], by simp [ht', f36], by simp [ht', f37], by simp [ht', f45], by simp [ht'], b_b2, l_b2⟩ ?_
          clear f6 f10 f31 f32 f36 f37 f45 f46 f47 b_b2 l_b2 ht' t'
          rintro t H n ⟨f6, f10, f31, f32, f36, f37, f45, f48, b_b2, l_b2⟩
          refine Stk.run 2 (fun t H n => t 6 = .fn (.func 87) [] [.own b2 0] ∧ t 9 = .sc (.int .i64 (IntKind.i64.wrap (v17 * x25))) ∧ t 10 = .sc (.int .i64 v11) ∧ t 31 = .agg (c95 a0.Exps) ∧ t 32 = .sc (.int .i64 v11) ∧ t 36 = .sc (.int .u8 x15) ∧ t 37 = .sc (.int .u8 v18) ∧ H b2 = some (.cells (c45 a1) 45) ∧ b2 < n) (fun J hJ => ?_) ?_
          · simp [-splice, f6, f10, f31, f32, f36, f37, f45, f48, b_b2]
            exact hJ _ _ _ ⟨by simp [f6], by simp [-splice, f6, f10, f31, f32, f36, f37, f45, f48, b_b2], by simp [f10], by simp [f31], by simp [f32], by simp [f36], by simp [f37], b_b2, l_b2⟩
          clear f6 f10 f31 f32 f36 f37 f45 f48 b_b2 l_b2
          rintro t H n ⟨f6, f9, f10, f31, f32, f36, f37, b_b2, l_b2⟩
          refine Stk.on ?_
          refine Stk.bn ?_
          refine Stk.rg ?_
          refine Stk.run 2 (fun t H n => t 6 = .fn (.func 87) [] [.own b2 0] ∧ t 9 = .sc (.int .i64 (IntKind.i64.wrap (v17 * x25))) ∧ t 10 = .sc (.int .i64 v11) ∧ t 31 = .agg (c95 a0.Exps) ∧ t 32 = .sc (.int .i64 v11) ∧ t 36 = .sc (.int .u8 x15) ∧ t 37 = .sc (.int .u8 (IntKind.u8.wrap (v18 + 1))) ∧ H b2 = some (.cells (c45 a1) 45) ∧ b2 < n) (fun J hJ => ?_) ?_
          · simp [-splice, f6, f9, f10, f31, f32, f36, f37, b_b2]
            exact hJ _ _ _ ⟨by simp [f6], by simp [f9], by simp [f10], by simp [f31], by simp [f32], by simp [f36], by simp [-splice, f6, f9, f10, f31, f32, f36, f37, b_b2], b_b2, l_b2⟩
          clear f6 f9 f10 f31 f32 f36 f37 b_b2 l_b2
          rintro t H n ⟨f6, f9, f10, f31, f32, f36, f37, b_b2, l_b2⟩
          refine Stk.on ?_
          exact Stk.ln μ (Nat.lt_succ_self _) (hJ6 _ _ _ _ ⟨(IntKind.i64.wrap (v17 * x25)), (IntKind.u8.wrap (v18 + 1)), h, f6, f9, f10, f31, f32, f36, f37, b_b2, l_b2⟩)
      · have h := cF hb21 h
        refine Stk.ex rfl ?_
        exact Stk.ln 0 (by decide) (hJ5 _ _ _ ⟨v17, h, f6, f9, f31, f32, b_b2, l_b2⟩)
    clear h f6 f9 f10 f31 f32 f36 f37 b_b2 l_b2
    rintro t H n ⟨v16, h, f6, f9, f31, f32, b_b2, l_b2⟩
    subst hK5
    refine Stk.bn ?_
    refine Stk.rg ?_
    refine Stk.run 2 (fun t H n => t 6 = .fn (.func 87) [] [.own b2 0] ∧ t 9 = .sc (.int .i64 v16) ∧ t 31 = .agg (c95 a0.Exps) ∧ t 32 = .sc (.int .i64 (IntKind.i64.wrap (v11 + 1))) ∧ H b2 = some (.cells (c45 a1) 45) ∧ b2 < n) (fun J hJ => ?_) ?_
    · simp [-splice, f6, f9, f31, f32, b_b2]
      exact hJ _ _ _ ⟨by simp [f6], by simp [f9], by simp [f31], by simp [-splice, f6, f9, f31, f32, b_b2], b_b2, l_b2⟩
    clear f6 f9 f31 f32 b_b2 l_b2
    rintro t H n ⟨f6, f9, f31, f32, b_b2, l_b2⟩
    refine Stk.on ?_
    exact Stk.ln μ (Nat.lt_succ_self _) (hJ4 _ _ _ _ ⟨v16, (IntKind.i64.wrap (v11 + 1)), h, f6, f9, f31, f32, b_b2, l_b2⟩)
  · have h := cF hb14 h
    refine Stk.ex rfl ?_
    refine Stk.sq ?_
    refine Stk.rg ?_
    refine Stk.run 3 (fun t H n => t 4 = .sc (.int .i64 v10) ∧ t 5 = .sc (.bool true)) (fun J hJ => ?_) ?_
    · simp [-splice, f6, f9, f31, f32, f33, b_b2]
      exact hJ _ _ _ ⟨by simp [-splice, f6, f9, f31, f32, f33, b_b2], by simp [-splice, f6, f9, f31, f32, f33, b_b2]⟩
    clear f6 f9 f31 f32 f33 b_b2 l_b2
    rintro t H n ⟨f4, f5⟩
    refine Stk.on ?_
    refine Stk.rt ?_
    have hq := Option.some.inj h; subst hq
    exact (hr _ _ _ (.tup [.sc (.int .i64 v10), .sc (.bool true)]) ([]) (by simp [f4, f5]) (.inr (.inr (.tup (.cons (.free (rfl)) (.cons (.free (rfl)) (.nil))))))).1
theorem ok_poly_At (F : Nat) (a0 : (List api_Term)) (a1 : (List Int)) (r : (Int × Int)) (h : poly_At F a0 a1 = some r) : RunF Try.prog T.T 25 [.ssl (encs c97 a0) a0.length false, .ssl (encs c2 a1) a1.length false] (.tup [.sc (.int .i64 r.1), .sc (.int .i64 r.2)]) := by
  rw [poly_At] at h
  refine RunF.z Try.func25 rfl rfl rfl rfl rfl (fun C hr => ?_)
  refine Stk.gen (fun t H n => t 0 = .ssl (encs c97 a0) a0.length false ∧ t 1 = .ssl (encs c2 a1) a1.length false) ⟨by simp, by simp⟩ ?_
  rintro t H n ⟨f0, f1⟩
  refine Stk.sq ?_
  refine Stk.rg ?_
  refine Stk.run 2 (fun t H n => t 0 = .ssl (encs c97 a0) a0.length false ∧ t 1 = .ssl (encs c2 a1) a1.length false) (fun J hJ => ?_) ?_
  · simp [-splice, f0, f1]
    exact hJ _ _ _ ⟨by simp [f0], by simp [f1]⟩
  clear f0 f1
  rintro t H n ⟨f0, f1⟩
  refine Stk.on ?_
  refine Stk.sq ?_
  refine Stk.rg ?_
  refine Stk.run 1 (fun t H n => t 0 = .ssl (encs c97 a0) a0.length false ∧ t 1 = .ssl (encs c2 a1) a1.length false ∧ t 6 = .sc (.int .i64 0)) (fun J hJ => ?_) ?_
  · simp [-splice, f0, f1]
    exact hJ _ _ _ ⟨by simp [f0], by simp [f1], by simp [-splice, f0, f1]⟩
  clear f0 f1
  rintro t H n ⟨f0, f1, f6⟩
  refine Stk.on ?_
  refine Stk.sq ?_
  refine Stk.sq ?_
  refine Stk.rg ?_
  refine Stk.run 3 (fun t H n => t 1 = .ssl (encs c2 a1) a1.length false ∧ t 6 = .sc (.int .i64 0) ∧ t 11 = .ssl (encs c97 a0) a0.length false ∧ t 12 = .sc (.int .i64 (a0.length : Int)) ∧ t 13 = .sc (.int .i64 0)) (fun J hJ => ?_) ?_
  · simp [-splice, f0, f1, f6]
    exact hJ _ _ _ ⟨by simp [f1], by simp [f6], by simp [-splice, f0, f1, f6], by simp [-splice, f0, f1, f6], by simp [-splice, f0, f1, f6]⟩
  clear f0 f1 f6
  rintro t H n ⟨f1, f6, f11, f12, f13⟩
  refine Stk.on ?_
  refine Stk.bk ?_
  refine Stk.lo (fun μ t H n => ∃ v1 : Int, ∃ v2 : Int, poly_At_L0 F a0 a1 μ v1 v2 = some r ∧ t 1 = .ssl (encs c2 a1) a1.length false ∧ t 6 = .sc (.int .i64 v1) ∧ t 11 = .ssl (encs c97 a0) a0.length false ∧ t 12 = .sc (.int .i64 (a0.length : Int)) ∧ t 13 = .sc (.int .i64 v2)) F ⟨0, 0, h, f1, f6, f11, f12, f13⟩ ?_
  clear h f1 f6 f11 f12 f13
  rintro J1 hJ1 μ t H n ⟨v1, v2, h, f1, f6, f11, f12, f13⟩
  cases μ with
  | zero => exact absurd h (by simp [poly_At_L0])
  | succ μ =>
  rw [poly_At_L0] at h
  refine Stk.sq ?_
  refine Stk.rg ?_
  refine Stk.run 1 (fun t H n => t 1 = .ssl (encs c2 a1) a1.length false ∧ t 6 = .sc (.int .i64 v1) ∧ t 11 = .ssl (encs c97 a0) a0.length false ∧ t 12 = .sc (.int .i64 (a0.length : Int)) ∧ t 13 = .sc (.int .i64 v2) ∧ t 14 = .sc (.bool (decide (v2 < (a0.length : Int))))) (fun J hJ => ?_) ?_
  · simp [-splice, f1, f6, f11, f12, f13]
    exact hJ _ _ _ ⟨by simp [f1], by simp [f6], by simp [f11], by simp [f12], by simp [f13], by simp [-splice, f1, f6, f11, f12, f13]⟩
  clear f1 f6 f11 f12 f13
  rintro t H n ⟨f1, f6, f11, f12, f13, f14⟩
  refine Stk.on ?_
  refine Stk.sq ?_
  refine Stk.cond (decide (v2 < (a0.length : Int))) (by exact f14) (fun hb5 => ?_) (fun hb5 => ?_)
  · have h := cT hb5 h
    refine Stk.sk ?_
    refine Stk.sq ?_
    refine Stk.bk ?_
    refine Stk.sq ?_
    refine Stk.rg ?_
    obtain ⟨x6, hx6, h⟩ := bnd h
    obtain ⟨i0x6, i1x6, i2x6, _⟩ := idx_ok hx6
    have ex6_0_97 : partOf T.T 97 (encs c97 a0) (v2.toNat * 13) = some (.agg (c97 x6)) := by
        have e0 := part_elem0 (e := c97) (z := 13) (T := T.T) (ty := 97) T.t97 (by decide) (by decide) hx6 0 (by decide)
        (try simp only [Nat.mul_one, Nat.add_zero] at e0)
        exact e0.trans (ld_97_0_97 _)
    refine Stk.run 2 (fun t H n => t 1 = .ssl (encs c2 a1) a1.length false ∧ t 6 = .sc (.int .i64 v1) ∧ t 11 = .ssl (encs c97 a0) a0.length false ∧ t 12 = .sc (.int .i64 (a0.length : Int)) ∧ t 13 = .sc (.int .i64 v2) ∧ t 16 = .agg (c97 x6)) (fun J hJ => ?_) ?_
    · simp [-splice, f1, f6, f11, f12, f13, f14, i0x6, i1x6, pd97, ex6_0_97]
      exact hJ _ _ _ ⟨by simp [f1], by simp [f6], by simp [f11], by simp [f12], by simp [f13], by simp [-splice, f1, f6, f11, f12, f13, f14, i0x6, i1x6, pd97, ex6_0_97]⟩
    clear f1 f6 f11 f12 f13 f14
    rintro t H n ⟨f1, f6, f11, f12, f13, f16⟩
    refine Stk.om (mop_alloc T.t97 (cs := c97 (api_Term.mk (Arr.rep 12 0) 0)) rfl) (by simp [f1, f6, f11, f12, f13, f16]) rfl (fun t' ht' => ?_)
    refine Stk.gen (fun t H n => ∃ b7, t 1 = .ssl (encs c2 a1) a1.length false ∧ t 6 = .sc (.int .i64 v1) ∧ t 8 = .own b7 0 ∧ t 11 = .ssl (encs c97 a0) a0.length false ∧ t 12 = .sc (.int .i64 (a0.length : Int)) ∧ t 13 = .sc (.int .i64 v2) ∧ t 16 = .agg (c97 x6) ∧ H b7 = some (.cells (c97 (api_Term.mk (Arr.rep 12 0) 0)) 97) ∧ b7 < n) ⟨n, by simp [ht', f1], by simp [ht', f6], by simp [ht'], by simp [ht', f11], by simp [ht', f12], by simp [ht', f13], by simp [ht', f16], upd_same _ _ _, Nat.lt_succ_self _⟩ ?_
    clear f1 f6 f11 f12 f13 f16 ht' t'
    rintro t H n ⟨b7, f1, f6, f8, f11, f12, f13, f16, b_b7, l_b7⟩
    refine Stk.om (mop_store (z := 13) rfl f8 b_b7 f16 (len97 _) (by rw [len97]; decide) (ok97 _) (st_97_0_97 _ _)) (by simp [f1, f6, f8, f11, f12, f13, f16]) rfl (fun t' ht' => ?_)
    refine Stk.gen (fun t H n => t 1 = .ssl (encs c2 a1) a1.length false ∧ t 6 = .sc (.int .i64 v1) ∧ t 8 = .own b7 0 ∧ t 11 = .ssl (encs c97 a0) a0.length false ∧ t 12 = .sc (.int .i64 (a0.length : Int)) ∧ t 13 = .sc (.int .i64 v2) ∧ H b7 = some (.cells (c97 x6) 97) ∧ b7 < n) ⟨by simp [ht', f1], by simp [ht', f6], by simp [ht', f8], by simp [ht', f11], by simp [ht', f12], by simp [ht', f13], upd_same _ _ _, l_b7⟩ ?_
    clear f1 f6 f8 f11 f12 f13 f16 b_b7 l_b7 ht' t'
    rintro t H n ⟨f1, f6, f8, f11, f12, f13, b_b7, l_b7⟩
    refine Stk.on ?_
    refine Stk.sq ?_
    refine Stk.rg ?_
    refine Stk.run 2 (fun t H n => t 1 = .ssl (encs c2 a1) a1.length false ∧ t 6 = .sc (.int .i64 v1) ∧ t 11 = .ssl (encs c97 a0) a0.length false ∧ t 12 = .sc (.int .i64 (a0.length : Int)) ∧ t 13 = .sc (.int .i64 v2) ∧ t 18 = .agg (c97 x6) ∧ t 19 = .ssl (encs c2 a1) a1.length false) (fun J hJ => ?_) ?_
    · simp [-splice, f1, f6, f8, f11, f12, f13, b_b7, ld_97_0_97]
      exact hJ _ _ _ ⟨by simp [f1], by simp [f6], by simp [f11], by simp [f12], by simp [f13], by simp [-splice, f1, f6, f8, f11, f12, f13, b_b7, ld_97_0_97], by simp [-splice, f1, f6, f8, f11, f12, f13, b_b7, ld_97_0_97]⟩
    clear f1 f6 f8 f11 f12 f13 b_b7 l_b7
    rintro t H n ⟨f1, f6, f11, f12, f13, f18, f19⟩
    obtain ⟨x8, hx8, h⟩ := bnd h
    refine Stk.cv (g := 68) (args := [.agg (c97 x6), .ssl (encs c2 a1) a1.length false]) (args' := [.agg (c97 x6), .ssl (encs c2 a1) a1.length false]) (v := .tup [.sc (.int .i64 x8.1), .sc (.bool x8.2)]) [] (ok_poly_valued F _ _ _ hx8) (by simp [f1, f6, f11, f12, f13, f18, f19]) rfl rfl (by simp [f1, f6, f11, f12, f13, f18, f19]) (.cons (.free (fr97 _)) (.cons (.free (freeL_encs fr2 _)) (.nil))) (.inl ⟨rfl, by simp [free, freeL]⟩) (fun t' ht' => ?_)
    refine Stk.gen (fun t H n => t 1 = .ssl (encs c2 a1) a1.length false ∧ t 6 = .sc (.int .i64 v1) ∧ t 11 = .ssl (encs c97 a0) a0.length false ∧ t 12 = .sc (.int .i64 (a0.length : Int)) ∧ t 13 = .sc (.int .i64 v2) ∧ t 20 = .tup [.sc (.int .i64 x8.1), .sc (.bool x8.2)]) ⟨by simp [ht', f1], by simp [ht', f6], by simp [ht', f11], by simp [ht', f12], by simp [ht', f13], by simp [ht']⟩ ?_
    clear f1 f6 f11 f12 f13 f18 f19 ht' t'
    rintro t H n ⟨f1, f6, f11, f12, f13, f20⟩
    refine Stk.run 5 (fun t H n => t 1 = .ssl (encs c2 a1) a1.length false ∧ t 6 = .sc (.int .i64 v1) ∧ t 9 = .sc (.int .i64 x8.1) ∧ t 10 = .sc (.bool x8.2) ∧ t 11 = .ssl (encs c97 a0) a0.length false ∧ t 12 = .sc (.int .i64 (a0.length : Int)) ∧ t 13 = .sc (.int .i64 v2)) (fun J hJ => ?_) ?_
    · simp [-splice, f1, f6, f11, f12, f13, f20]
      exact hJ _ _ _ ⟨by simp [f1], by simp [f6], by simp [-splice, f1, f6, f11, f12, f13, f20], by simp [-splice, f1, f6, f11, f12, f13, f20], by simp [f11], by simp [f12], by simp [f13]⟩
    clear f1 f6 f11 f12 f13 f20
    rintro t H n ⟨f1, f6, f9, f10, f11, f12, f13⟩
    refine Stk.on ?_
    refine Stk.sq ?_
    refine Stk.sq ?_
    refine Stk.rg ?_
    refine Stk.run 3 (fun t H n => t 1 = .ssl (encs c2 a1) a1.length false ∧ t 6 = .sc (.int .i64 v1) ∧ t 9 = .sc (.int .i64 x8.1) ∧ t 11 = .ssl (encs c97 a0) a0.length false ∧ t 12 = .sc (.int .i64 (a0.length : Int)) ∧ t 13 = .sc (.int .i64 v2) ∧ t 25 = .sc (.bool (!x8.2))) (fun J hJ => ?_) ?_
    · simp [-splice, f1, f6, f9, f10, f11, f12, f13]
      exact hJ _ _ _ ⟨by simp [f1], by simp [f6], by simp [f9], by simp [f11], by simp [f12], by simp [f13], by simp [-splice, f1, f6, f9, f10, f11, f12, f13]⟩
    clear f1 f6 f9 f10 f11 f12 f13
    rintro t H n ⟨f1, f6, f9, f11, f12, f13, f25⟩
    refine Stk.jo 5 (fun t H n => t 1 = .ssl (encs c2 a1) a1.length false ∧ t 6 = .sc (.int .i64 v1) ∧ t 9 = .sc (.int .i64 x8.1) ∧ t 11 = .ssl (encs c97 a0) a0.length false ∧ t 12 = .sc (.int .i64 (a0.length : Int)) ∧ t 13 = .sc (.int .i64 v2) ∧ t 30 = .sc (.bool ((!x8.2) || (decide ((IntKind.i64.wrap (1099511627776 - v1)) < x8.1))))) (fun J2 hJ2 => ?_) ?_
    · rcases Bool.eq_false_or_eq_true (!x8.2) with hb2 | hb2
      · rw [hb2] at f25
        refine Stk.run 5 (fun t H n => t 1 = .ssl (encs c2 a1) a1.length false ∧ t 6 = .sc (.int .i64 v1) ∧ t 9 = .sc (.int .i64 x8.1) ∧ t 11 = .ssl (encs c97 a0) a0.length false ∧ t 12 = .sc (.int .i64 (a0.length : Int)) ∧ t 13 = .sc (.int .i64 v2) ∧ t 30 = .sc (.bool true)) (fun J hJ => ?_) ?_
        · simp [-splice, f1, f6, f9, f11, f12, f13, f25]
          exact hJ _ _ _ ⟨by simp [f1], by simp [f6], by simp [f9], by simp [f11], by simp [f12], by simp [f13], by simp [-splice, f1, f6, f9, f11, f12, f13, f25]⟩
        clear f1 f6 f9 f11 f12 f13 f25
        rintro t H n ⟨f1, f6, f9, f11, f12, f13, f30⟩
        refine Stk.on ?_
        exact Stk.ln 0 (by decide) (hJ2 _ _ _ ⟨f1, f6, f9, f11, f12, f13, f30.trans (congrArg (fun q => AV.sc (.bool q)) (by rw [hb2]; rfl))⟩)
      · rw [hb2] at f25
        refine Stk.run 5 (fun t H n => t 1 = .ssl (encs c2 a1) a1.length false ∧ t 6 = .sc (.int .i64 v1) ∧ t 9 = .sc (.int .i64 x8.1) ∧ t 11 = .ssl (encs c97 a0) a0.length false ∧ t 12 = .sc (.int .i64 (a0.length : Int)) ∧ t 13 = .sc (.int .i64 v2) ∧ t 30 = .sc (.bool (decide ((IntKind.i64.wrap (1099511627776 - v1)) < x8.1)))) (fun J hJ => ?_) ?_
        · simp [-splice, f1, f6, f9, f11, f12, f13, f25]
          exact hJ _ _ _ ⟨by simp [f1], by simp [f6], by simp [f9], by simp [f11], by simp [f12], by simp [f13], by simp [-splice, f1, f6, f9, f11, f12, f13, f25]⟩
        clear f1 f6 f9 f11 f12 f13 f25
        rintro t H n ⟨f1, f6, f9, f11, f12, f13, f30⟩
        refine Stk.on ?_
        exact Stk.ln 0 (by decide) (hJ2 _ _ _ ⟨f1, f6, f9, f11, f12, f13, f30.trans (congrArg (fun q => AV.sc (.bool q)) (by rw [hb2]; rfl))⟩)
    clear f1 f6 f9 f11 f12 f13 f25
    rintro t H n ⟨f1, f6, f9, f11, f12, f13, f30⟩
    refine Stk.on ?_
    refine Stk.cond ((!x8.2) || (decide ((IntKind.i64.wrap (1099511627776 - v1)) < x8.1))) (by exact f30) (fun hb9 => ?_) (fun hb9 => ?_)
    · have h := cT hb9 h
      refine Stk.sq ?_
      refine Stk.rg ?_
      refine Stk.run 2 (fun t H n => t 4 = .sc (.int .i64 0) ∧ t 5 = .sc (.int .i64 17)) (fun J hJ => ?_) ?_
      · simp [-splice, f1, f6, f9, f11, f12, f13, f30]
        exact hJ _ _ _ ⟨by simp [-splice, f1, f6, f9, f11, f12, f13, f30], by simp [-splice, f1, f6, f9, f11, f12, f13, f30]⟩
      clear f1 f6 f9 f11 f12 f13 f30
      rintro t H n ⟨f4, f5⟩
      refine Stk.on ?_
      refine Stk.rt ?_
      have hq := Option.some.inj h; subst hq
      exact (hr _ _ _ (.tup [.sc (.int .i64 0), .sc (.int .i64 17)]) ([]) (by simp [f4, f5]) (.inr (.inr (.tup (.cons (.free (rfl)) (.cons (.free (rfl)) (.nil))))))).1
    · have h := cF hb9 h
      refine Stk.sk ?_
      refine Stk.rg ?_
      refine Stk.run 4 (fun t H n => t 1 = .ssl (encs c2 a1) a1.length false ∧ t 6 = .sc (.int .i64 (IntKind.i64.wrap (v1 + x8.1))) ∧ t 11 = .ssl (encs c97 a0) a0.length false ∧ t 12 = .sc (.int .i64 (a0.length : Int)) ∧ t 13 = .sc (.int .i64 v2)) (fun J hJ => ?_) ?_
      · simp [-splice, f1, f6, f9, f11, f12, f13, f30]
        exact hJ _ _ _ ⟨by simp [f1], by simp [-splice, f1, f6, f9, f11, f12, f13, f30], by simp [f11], by simp [f12], by simp [f13]⟩
      clear f1 f6 f9 f11 f12 f13 f30
      rintro t H n ⟨f1, f6, f11, f12, f13⟩
      refine Stk.on ?_
      refine Stk.bn ?_
      refine Stk.rg ?_
      refine Stk.run 2 (fun t H n => t 1 = .ssl (encs c2 a1) a1.length false ∧ t 6 = .sc (.int .i64 (IntKind.i64.wrap (v1 + x8.1))) ∧ t 11 = .ssl (encs c97 a0) a0.length false ∧ t 12 = .sc (.int .i64 (a0.length : Int)) ∧ t 13 = .sc (.int .i64 (IntKind.i64.wrap (v2 + 1)))) (fun J hJ => ?_) ?_
      · simp [-splice, f1, f6, f11, f12, f13]
        exact hJ _ _ _ ⟨by simp [f1], by simp [f6], by simp [f11], by simp [f12], by simp [-splice, f1, f6, f11, f12, f13]⟩
      clear f1 f6 f11 f12 f13
      rintro t H n ⟨f1, f6, f11, f12, f13⟩
      refine Stk.on ?_
      exact Stk.ln μ (Nat.lt_succ_self _) (hJ1 _ _ _ _ ⟨(IntKind.i64.wrap (v1 + x8.1)), (IntKind.i64.wrap (v2 + 1)), h, f1, f6, f11, f12, f13⟩)
  · have h := cF hb5 h
    refine Stk.ex rfl ?_
    refine Stk.sq ?_
    refine Stk.rg ?_
    refine Stk.run 3 (fun t H n => t 4 = .sc (.int .i64 v1) ∧ t 5 = .sc (.int .i64 0)) (fun J hJ => ?_) ?_
    · simp [-splice, f1, f6, f11, f12, f13, f14]
      exact hJ _ _ _ ⟨by simp [-splice, f1, f6, f11, f12, f13, f14], by simp [-splice, f1, f6, f11, f12, f13, f14]⟩
    clear f1 f6 f11 f12 f13 f14
    rintro t H n ⟨f4, f5⟩
    refine Stk.on ?_
    refine Stk.rt ?_
    have hq := Option.some.inj h; subst hq
    exact (hr _ _ _ (.tup [.sc (.int .i64 v1), .sc (.int .i64 0)]) ([]) (by simp [f4, f5]) (.inr (.inr (.tup (.cons (.free (rfl)) (.cons (.free (rfl)) (.nil))))))).1
theorem ok_L13_awake (F : Nat)  (r : Bool) (h : L13_awake F  = some r) : RunF Try.prog T.T 19 [] (.sc (.bool r)) := by
  rw [L13_awake] at h
  refine RunF.z Try.func19 rfl rfl rfl rfl rfl (fun C hr => ?_)
  refine Stk.sq ?_
  refine Stk.rg ?_
  refine Stk.run 1 (fun t H n => True) (fun J hJ => ?_) ?_
  · simp [-splice, ]
    exact hJ _ _ _ ⟨⟩
  rintro t H n _
  refine Stk.on ?_
  refine Stk.sq ?_
  refine Stk.rg ?_
  obtain ⟨x1, hx1, h⟩ := bnd h
  refine Stk.cv (g := 33) (args := [.sc (.int .i64 0)]) (args' := [.sc (.int .i64 0)]) (v := .tup [.ssl (encs c97 x1.1) x1.1.length false, .sc (.int .i64 x1.2)]) [] (ok_poly_Var F _ _ hx1) (by simp []) rfl rfl (by simp []) (.cons (.free (rfl)) (.nil)) (.inl ⟨rfl, by simp [free, freeL, freeL_encs fr97]⟩) (fun t' ht' => ?_)
  refine Stk.gen (fun t H n => t 16 = .tup [.ssl (encs c97 x1.1) x1.1.length false, .sc (.int .i64 x1.2)]) (by simp [ht']) ?_
  clear  ht' t'
  rintro t H n f16
  refine Stk.run 5 (fun t H n => t 1 = .ssl (encs c97 x1.1) x1.1.length false) (fun J hJ => ?_) ?_
  · simp [-splice, f16]
    exact hJ _ _ _ (by simp [-splice, f16])
  clear f16
  rintro t H n f1
  refine Stk.on ?_
  refine Stk.sq ?_
  refine Stk.rg ?_
  obtain ⟨x2, hx2, h⟩ := bnd h
  refine Stk.cv (g := 31) (args := [.sc (.int .i64 2)]) (args' := [.sc (.int .i64 2)]) (v := .tup [.ssl (encs c97 x2.1) x2.1.length false, .sc (.int .i64 x2.2)]) [] (ok_poly_Num F _ _ hx2) (by simp [f1]) rfl rfl (by simp [f1]) (.cons (.free (rfl)) (.nil)) (.inl ⟨rfl, by simp [free, freeL, freeL_encs fr97]⟩) (fun t' ht' => ?_)
  refine Stk.gen (fun t H n => t 1 = .ssl (encs c97 x1.1) x1.1.length false ∧ t 20 = .tup [.ssl (encs c97 x2.1) x2.1.length false, .sc (.int .i64 x2.2)]) ⟨by simp [ht', f1], by simp [ht']⟩ ?_
  clear f1 ht' t'
  rintro t H n ⟨f1, f20⟩
  refine Stk.run 5 (fun t H n => t 1 = .ssl (encs c97 x1.1) x1.1.length false ∧ t 3 = .ssl (encs c97 x2.1) x2.1.length false) (fun J hJ => ?_) ?_
  · simp [-splice, f1, f20]
    exact hJ _ _ _ ⟨by simp [f1], by simp [-splice, f1, f20]⟩
  clear f1 f20
  rintro t H n ⟨f1, f3⟩
  refine Stk.on ?_
  refine Stk.sq ?_
  refine Stk.rg ?_
  obtain ⟨x3, hx3, h⟩ := bnd h
  refine Stk.cv (g := 31) (args := [.sc (.int .i64 3)]) (args' := [.sc (.int .i64 3)]) (v := .tup [.ssl (encs c97 x3.1) x3.1.length false, .sc (.int .i64 x3.2)]) [] (ok_poly_Num F _ _ hx3) (by simp [f1, f3]) rfl rfl (by simp [f1, f3]) (.cons (.free (rfl)) (.nil)) (.inl ⟨rfl, by simp [free, freeL, freeL_encs fr97]⟩) (fun t' ht' => ?_)
  refine Stk.gen (fun t H n => t 1 = .ssl (encs c97 x1.1) x1.1.length false ∧ t 3 = .ssl (encs c97 x2.1) x2.1.length false ∧ t 24 = .tup [.ssl (encs c97 x3.1) x3.1.length false, .sc (.int .i64 x3.2)]) ⟨by simp [ht', f1], by simp [ht', f3], by simp [ht']⟩ ?_
  clear f1 f3 ht' t'
  rintro t H n ⟨f1, f3, f24⟩
  refine Stk.run 5 (fun t H n => t 1 = .ssl (encs c97 x1.1) x1.1.length false ∧ t 3 = .ssl (encs c97 x2.1) x2.1.length false ∧ t 5 = .ssl (encs c97 x3.1) x3.1.length false) (fun J hJ => ?_) ?_
  · simp [-splice, f1, f3, f24]
    exact hJ _ _ _ ⟨by simp [f1], by simp [f3], by simp [-splice, f1, f3, f24]⟩
  clear f1 f3 f24
  rintro t H n ⟨f1, f3, f5⟩
  refine Stk.on ?_
  refine Stk.sq ?_
  refine Stk.rg ?_
  refine Stk.run 2 (fun t H n => t 1 = .ssl (encs c97 x1.1) x1.1.length false ∧ t 5 = .ssl (encs c97 x3.1) x3.1.length false ∧ t 28 = .ssl (encs c97 x1.1) x1.1.length false ∧ t 29 = .ssl (encs c97 x2.1) x2.1.length false) (fun J hJ => ?_) ?_
  · simp [-splice, f1, f3, f5]
    exact hJ _ _ _ ⟨by simp [f1], by simp [f5], by simp [-splice, f1, f3, f5], by simp [-splice, f1, f3, f5]⟩
  clear f1 f3 f5
  rintro t H n ⟨f1, f5, f28, f29⟩
  obtain ⟨x4, hx4, h⟩ := bnd h
  refine Stk.cv (g := 20) (args := [.ssl (encs c97 x1.1) x1.1.length false, .ssl (encs c97 x2.1) x2.1.length false]) (args' := [.ssl (encs c97 x1.1) x1.1.length false, .ssl (encs c97 x2.1) x2.1.length false]) (v := .tup [.ssl (encs c97 x4.1) x4.1.length false, .sc (.int .i64 x4.2)]) [] (ok_poly_Add F _ _ _ hx4) (by simp [f1, f5, f28, f29]) rfl rfl (by simp [f1, f5, f28, f29]) (.cons (.free (freeL_encs fr97 _)) (.cons (.free (freeL_encs fr97 _)) (.nil))) (.inl ⟨rfl, by simp [free, freeL, freeL_encs fr97]⟩) (fun t' ht' => ?_)
  refine Stk.gen (fun t H n => t 1 = .ssl (encs c97 x1.1) x1.1.length false ∧ t 5 = .ssl (encs c97 x3.1) x3.1.length false ∧ t 30 = .tup [.ssl (encs c97 x4.1) x4.1.length false, .sc (.int .i64 x4.2)]) ⟨by simp [ht', f1], by simp [ht', f5], by simp [ht']⟩ ?_
  clear f1 f5 f28 f29 ht' t'
  rintro t H n ⟨f1, f5, f30⟩
  refine Stk.run 5 (fun t H n => t 1 = .ssl (encs c97 x1.1) x1.1.length false ∧ t 5 = .ssl (encs c97 x3.1) x3.1.length false ∧ t 7 = .ssl (encs c97 x4.1) x4.1.length false) (fun J hJ => ?_) ?_
  · simp [-splice, f1, f5, f30]
    exact hJ _ _ _ ⟨by simp [f1], by simp [f5], by simp [-splice, f1, f5, f30]⟩
  clear f1 f5 f30
  rintro t H n ⟨f1, f5, f7⟩
  refine Stk.on ?_
  refine Stk.sq ?_
  refine Stk.rg ?_
  refine Stk.run 2 (fun t H n => t 7 = .ssl (encs c97 x4.1) x4.1.length false ∧ t 34 = .ssl (encs c97 x1.1) x1.1.length false ∧ t 35 = .ssl (encs c97 x3.1) x3.1.length false) (fun J hJ => ?_) ?_
  · simp [-splice, f1, f5, f7]
    exact hJ _ _ _ ⟨by simp [f7], by simp [-splice, f1, f5, f7], by simp [-splice, f1, f5, f7]⟩
  clear f1 f5 f7
  rintro t H n ⟨f7, f34, f35⟩
  obtain ⟨x5, hx5, h⟩ := bnd h
  refine Stk.cv (g := 20) (args := [.ssl (encs c97 x1.1) x1.1.length false, .ssl (encs c97 x3.1) x3.1.length false]) (args' := [.ssl (encs c97 x1.1) x1.1.length false, .ssl (encs c97 x3.1) x3.1.length false]) (v := .tup [.ssl (encs c97 x5.1) x5.1.length false, .sc (.int .i64 x5.2)]) [] (ok_poly_Add F _ _ _ hx5) (by simp [f7, f34, f35]) rfl rfl (by simp [f7, f34, f35]) (.cons (.free (freeL_encs fr97 _)) (.cons (.free (freeL_encs fr97 _)) (.nil))) (.inl ⟨rfl, by simp [free, freeL, freeL_encs fr97]⟩) (fun t' ht' => ?_)
  refine Stk.gen (fun t H n => t 7 = .ssl (encs c97 x4.1) x4.1.length false ∧ t 36 = .tup [.ssl (encs c97 x5.1) x5.1.length false, .sc (.int .i64 x5.2)]) ⟨by simp [ht', f7], by simp [ht']⟩ ?_
  clear f7 f34 f35 ht' t'
  rintro t H n ⟨f7, f36⟩
  refine Stk.run 5 (fun t H n => t 7 = .ssl (encs c97 x4.1) x4.1.length false ∧ t 9 = .ssl (encs c97 x5.1) x5.1.length false) (fun J hJ => ?_) ?_
  · simp [-splice, f7, f36]
    exact hJ _ _ _ ⟨by simp [f7], by simp [-splice, f7, f36]⟩
  clear f7 f36
  rintro t H n ⟨f7, f9⟩
  refine Stk.on ?_
  refine Stk.sq ?_
  refine Stk.rg ?_
  refine Stk.run 2 (fun t H n => t 40 = .ssl (encs c97 x4.1) x4.1.length false ∧ t 41 = .ssl (encs c97 x5.1) x5.1.length false) (fun J hJ => ?_) ?_
  · simp [-splice, f7, f9]
    exact hJ _ _ _ ⟨by simp [-splice, f7, f9], by simp [-splice, f7, f9]⟩
  clear f7 f9
  rintro t H n ⟨f40, f41⟩
  obtain ⟨x6, hx6, h⟩ := bnd h
  refine Stk.cv (g := 21) (args := [.ssl (encs c97 x4.1) x4.1.length false, .ssl (encs c97 x5.1) x5.1.length false]) (args' := [.ssl (encs c97 x4.1) x4.1.length false, .ssl (encs c97 x5.1) x5.1.length false]) (v := .tup [.ssl (encs c97 x6.1) x6.1.length false, .sc (.int .i64 x6.2)]) [] (ok_poly_Mul F _ _ _ hx6) (by simp [f40, f41]) rfl rfl (by simp [f40, f41]) (.cons (.free (freeL_encs fr97 _)) (.cons (.free (freeL_encs fr97 _)) (.nil))) (.inl ⟨rfl, by simp [free, freeL, freeL_encs fr97]⟩) (fun t' ht' => ?_)
  refine Stk.gen (fun t H n => t 42 = .tup [.ssl (encs c97 x6.1) x6.1.length false, .sc (.int .i64 x6.2)]) (by simp [ht']) ?_
  clear f40 f41 ht' t'
  rintro t H n f42
  refine Stk.run 5 (fun t H n => t 11 = .ssl (encs c97 x6.1) x6.1.length false ∧ t 12 = .sc (.int .i64 x6.2)) (fun J hJ => ?_) ?_
  · simp [-splice, f42]
    exact hJ _ _ _ ⟨by simp [-splice, f42], by simp [-splice, f42]⟩
  clear f42
  rintro t H n ⟨f11, f12⟩
  refine Stk.on ?_
  refine Stk.sq ?_
  refine Stk.rg ?_
  refine Stk.run 1 (fun t H n => t 11 = .ssl (encs c97 x6.1) x6.1.length false ∧ t 12 = .sc (.int .i64 x6.2) ∧ t 46 = .ssl (encs c97 x6.1) x6.1.length false) (fun J hJ => ?_) ?_
  · simp [-splice, f11, f12]
    exact hJ _ _ _ ⟨by simp [f11], by simp [f12], by simp [-splice, f11, f12]⟩
  clear f11 f12
  rintro t H n ⟨f11, f12, f46⟩
  refine Stk.om (mop_buildN (c := c2) (z := 1) T.t45 rfl T.t2 rfl (by decide) rfl (by decide) [4] rfl (.cons rfl rfl rfl rfl rfl (by simp [length_encs]) (splice_next (c := c2) [] _ 4 rfl (by simp)) (.nil))) (by simp [f11, f12, f46]) rfl (fun t' ht' => ?_)
  refine Stk.gen (fun t H n => ∃ b7, t 11 = .ssl (encs c97 x6.1) x6.1.length false ∧ t 12 = .sc (.int .i64 x6.2) ∧ t 46 = .ssl (encs c97 x6.1) x6.1.length false ∧ t 47 = .osl b7 0 ([4] : List Int).length (some ([4] : List Int).length) ∧ H b7 = some (.cells (encs c2 ([4] : List Int)) 2) ∧ b7 < n) ⟨n, by simp [ht', f11], by simp [ht', f12], by simp [ht', f46], by simp [ht'], upd_same _ _ _, Nat.lt_succ_self _⟩ ?_
  clear f11 f12 f46 ht' t'
  rintro t H n ⟨b7, f11, f12, f46, f47, b_b7, l_b7⟩
  obtain ⟨x8, hx8, h⟩ := bnd h
  refine Stk.cv (g := 25) (args := [.ssl (encs c97 x6.1) x6.1.length false, .osl b7 0 ([4] : List Int).length (some ([4] : List Int).length)]) (args' := [.ssl (encs c97 x6.1) x6.1.length false, .ssl (encs c2 ([4] : List Int)) ([4] : List Int).length false]) (v := .tup [.sc (.int .i64 x8.1), .sc (.int .i64 x8.2)]) [b7] (ok_poly_At F _ _ _ hx8) (by simp [f11, f12, f46, f47]) rfl rfl (by simp [f11, f12, f46, f47]) (.cons (.free (freeL_encs fr97 _)) (.cons (view_row fr2 b_b7 (by simp) _) (.nil))) (.inr rfl) (fun t' ht' => ?_)
  refine Stk.gen (fun t H n => t 11 = .ssl (encs c97 x6.1) x6.1.length false ∧ t 12 = .sc (.int .i64 x6.2) ∧ t 48 = .tup [.sc (.int .i64 x8.1), .sc (.int .i64 x8.2)]) ⟨by simp [ht', f11], by simp [ht', f12], by simp [ht']⟩ ?_
  clear f11 f12 f46 f47 b_b7 l_b7 ht' t'
  rintro t H n ⟨f11, f12, f48⟩
  refine Stk.run 5 (fun t H n => t 11 = .ssl (encs c97 x6.1) x6.1.length false ∧ t 12 = .sc (.int .i64 x6.2) ∧ t 13 = .sc (.int .i64 x8.1) ∧ t 14 = .sc (.int .i64 x8.2)) (fun J hJ => ?_) ?_
  · simp [-splice, f11, f12, f48]
    exact hJ _ _ _ ⟨by simp [f11], by simp [f12], by simp [-splice, f11, f12, f48], by simp [-splice, f11, f12, f48]⟩
  clear f11 f12 f48
  rintro t H n ⟨f11, f12, f13, f14⟩
  refine Stk.on ?_
  refine Stk.sq ?_
  refine Stk.rg ?_
  refine Stk.run 3 (fun t H n => t 11 = .ssl (encs c97 x6.1) x6.1.length false ∧ t 13 = .sc (.int .i64 x8.1) ∧ t 14 = .sc (.int .i64 x8.2) ∧ t 53 = .sc (.bool (x6.2 == 0))) (fun J hJ => ?_) ?_
  · simp [-splice, f11, f12, f13, f14]
    exact hJ _ _ _ ⟨by simp [f11], by simp [f13], by simp [f14], by simp [-splice, f11, f12, f13, f14]⟩
  clear f11 f12 f13 f14
  rintro t H n ⟨f11, f13, f14, f53⟩
  refine Stk.jo 4 (fun t H n => t 11 = .ssl (encs c97 x6.1) x6.1.length false ∧ t 13 = .sc (.int .i64 x8.1) ∧ t 14 = .sc (.int .i64 x8.2) ∧ t 57 = .sc (.bool ((x6.2 == 0) && ((x6.1.length : Int) == 3)))) (fun J1 hJ1 => ?_) ?_
  · rcases Bool.eq_false_or_eq_true (x6.2 == 0) with hb1 | hb1
    · rw [hb1] at f53
      refine Stk.run 4 (fun t H n => t 11 = .ssl (encs c97 x6.1) x6.1.length false ∧ t 13 = .sc (.int .i64 x8.1) ∧ t 14 = .sc (.int .i64 x8.2) ∧ t 57 = .sc (.bool ((x6.1.length : Int) == 3))) (fun J hJ => ?_) ?_
      · simp [-splice, f11, f13, f14, f53]
        exact hJ _ _ _ ⟨by simp [f11], by simp [f13], by simp [f14], by simp [-splice, f11, f13, f14, f53]⟩
      clear f11 f13 f14 f53
      rintro t H n ⟨f11, f13, f14, f57⟩
      refine Stk.on ?_
      exact Stk.ln 0 (by decide) (hJ1 _ _ _ ⟨f11, f13, f14, f57.trans (congrArg (fun q => AV.sc (.bool q)) (by rw [hb1]; rfl))⟩)
    · rw [hb1] at f53
      refine Stk.run 4 (fun t H n => t 11 = .ssl (encs c97 x6.1) x6.1.length false ∧ t 13 = .sc (.int .i64 x8.1) ∧ t 14 = .sc (.int .i64 x8.2) ∧ t 57 = .sc (.bool false)) (fun J hJ => ?_) ?_
      · simp [-splice, f11, f13, f14, f53]
        exact hJ _ _ _ ⟨by simp [f11], by simp [f13], by simp [f14], by simp [-splice, f11, f13, f14, f53]⟩
      clear f11 f13 f14 f53
      rintro t H n ⟨f11, f13, f14, f57⟩
      refine Stk.on ?_
      exact Stk.ln 0 (by decide) (hJ1 _ _ _ ⟨f11, f13, f14, f57.trans (congrArg (fun q => AV.sc (.bool q)) (by rw [hb1]; rfl))⟩)
  clear f11 f13 f14 f53
  rintro t H n ⟨f11, f13, f14, f57⟩
  refine Stk.run 1 (fun t H n => t 11 = .ssl (encs c97 x6.1) x6.1.length false ∧ t 13 = .sc (.int .i64 x8.1) ∧ t 14 = .sc (.int .i64 x8.2) ∧ t 58 = .sc (.bool ((x6.2 == 0) && ((x6.1.length : Int) == 3)))) (fun J hJ => ?_) ?_
  · simp [-splice, f11, f13, f14, f57]
    exact hJ _ _ _ ⟨by simp [f11], by simp [f13], by simp [f14], by simp [-splice, f11, f13, f14, f57]⟩
  clear f11 f13 f14 f57
  rintro t H n ⟨f11, f13, f14, f58⟩
  obtain ⟨K2, hK2, h⟩ := jnd h
  refine Stk.jo 6 (fun t H n => ∃ v9 : Bool, K2 v9 = some r ∧ t 13 = .sc (.int .i64 x8.1) ∧ t 14 = .sc (.int .i64 x8.2) ∧ t 64 = .sc (.bool v9)) (fun J2 hJ2 => ?_) ?_
  · rcases Bool.eq_false_or_eq_true ((x6.2 == 0) && ((x6.1.length : Int) == 3)) with hb2 | hb2
    · rw [hb2] at f58
      replace h := cT hb2 h
      obtain ⟨x10, hx10, h⟩ := bnd h
      obtain ⟨i0x10, i1x10, i2x10, _⟩ := idx_ok hx10
      have i5x10 : 0 < x6.1.length := by omega
      have i6x10 : ¬ x6.1 = [] := List.ne_nil_of_length_pos i5x10
      have ex10_12_2 : partOf T.T 2 (encs c97 x6.1) 12 = some (.sc (.int .i64 x10.Coef)) := by
          have e0 := part_elem0 (e := c97) (z := 13) (T := T.T) (ty := 2) T.t2 (by decide) (by decide) hx10 12 (by decide)
          (try simp only [Nat.mul_one, Nat.add_zero, Int.toNat_ofNat, Nat.zero_mul, Nat.zero_add] at e0)
          exact e0.trans (ld_97_12_2 _)
      refine Stk.run 6 (fun t H n => t 13 = .sc (.int .i64 x8.1) ∧ t 14 = .sc (.int .i64 x8.2) ∧ t 64 = .sc (.bool (x10.Coef == 6))) (fun J hJ => ?_) ?_
      · simp [-splice, f11, f13, f14, f58, i0x10, i1x10, i5x10, i6x10, pd2, ex10_12_2]
        exact hJ _ _ _ ⟨by simp [f13], by simp [f14], by simp [-splice, f11, f13, f14, f58, i0x10, i1x10, i5x10, i6x10, pd2, ex10_12_2]⟩
      clear f11 f13 f14 f58
      rintro t H n ⟨f13, f14, f64⟩
      refine Stk.on ?_
      exact Stk.ln 0 (by decide) (hJ2 _ _ _ ⟨(x10.Coef == 6), h, f13, f14, f64⟩)
    · rw [hb2] at f58
      replace h := cF hb2 h
      refine Stk.run 6 (fun t H n => t 13 = .sc (.int .i64 x8.1) ∧ t 14 = .sc (.int .i64 x8.2) ∧ t 64 = .sc (.bool false)) (fun J hJ => ?_) ?_
      · simp [-splice, f11, f13, f14, f58]
        exact hJ _ _ _ ⟨by simp [f13], by simp [f14], by simp [-splice, f11, f13, f14, f58]⟩
      clear f11 f13 f14 f58
      rintro t H n ⟨f13, f14, f64⟩
      refine Stk.on ?_
      exact Stk.ln 0 (by decide) (hJ2 _ _ _ ⟨false, h, f13, f14, f64⟩)
  clear h f11 f13 f14 f58
  rintro t H n ⟨v9, h, f13, f14, f64⟩
  subst hK2
  refine Stk.run 1 (fun t H n => t 13 = .sc (.int .i64 x8.1) ∧ t 14 = .sc (.int .i64 x8.2) ∧ t 65 = .sc (.bool v9)) (fun J hJ => ?_) ?_
  · simp [-splice, f13, f14, f64]
    exact hJ _ _ _ ⟨by simp [f13], by simp [f14], by simp [-splice, f13, f14, f64]⟩
  clear f13 f14 f64
  rintro t H n ⟨f13, f14, f65⟩
  refine Stk.jo 3 (fun t H n => t 13 = .sc (.int .i64 x8.1) ∧ t 68 = .sc (.bool (v9 && (x8.2 == 0)))) (fun J3 hJ3 => ?_) ?_
  · rcases Bool.eq_false_or_eq_true v9 with hb3 | hb3
    · rw [hb3] at f65
      refine Stk.run 3 (fun t H n => t 13 = .sc (.int .i64 x8.1) ∧ t 68 = .sc (.bool (x8.2 == 0))) (fun J hJ => ?_) ?_
      · simp [-splice, f13, f14, f65]
        exact hJ _ _ _ ⟨by simp [f13], by simp [-splice, f13, f14, f65]⟩
      clear f13 f14 f65
      rintro t H n ⟨f13, f68⟩
      refine Stk.on ?_
      exact Stk.ln 0 (by decide) (hJ3 _ _ _ ⟨f13, f68.trans (congrArg (fun q => AV.sc (.bool q)) (by rw [hb3]; rfl))⟩)
    · rw [hb3] at f65
      refine Stk.run 3 (fun t H n => t 13 = .sc (.int .i64 x8.1) ∧ t 68 = .sc (.bool false)) (fun J hJ => ?_) ?_
      · simp [-splice, f13, f14, f65]
        exact hJ _ _ _ ⟨by simp [f13], by simp [-splice, f13, f14, f65]⟩
      clear f13 f14 f65
      rintro t H n ⟨f13, f68⟩
      refine Stk.on ?_
      exact Stk.ln 0 (by decide) (hJ3 _ _ _ ⟨f13, f68.trans (congrArg (fun q => AV.sc (.bool q)) (by rw [hb3]; rfl))⟩)
  clear f13 f14 f65
  rintro t H n ⟨f13, f68⟩
  refine Stk.run 1 (fun t H n => t 13 = .sc (.int .i64 x8.1) ∧ t 69 = .sc (.bool (v9 && (x8.2 == 0)))) (fun J hJ => ?_) ?_
  · simp [-splice, f13, f68]
    exact hJ _ _ _ ⟨by simp [f13], by simp [-splice, f13, f68]⟩
  clear f13 f68
  rintro t H n ⟨f13, f69⟩
  refine Stk.jo 3 (fun t H n => t 72 = .sc (.bool ((v9 && (x8.2 == 0)) && (x8.1 == 42)))) (fun J4 hJ4 => ?_) ?_
  · rcases Bool.eq_false_or_eq_true (v9 && (x8.2 == 0)) with hb4 | hb4
    · rw [hb4] at f69
      refine Stk.run 3 (fun t H n => t 72 = .sc (.bool (x8.1 == 42))) (fun J hJ => ?_) ?_
      · simp [-splice, f13, f69]
        exact hJ _ _ _ (by simp [-splice, f13, f69])
      clear f13 f69
      rintro t H n f72
      refine Stk.on ?_
      exact Stk.ln 0 (by decide) (hJ4 _ _ _ (f72.trans (congrArg (fun q => AV.sc (.bool q)) (by rw [hb4]; rfl))))
    · rw [hb4] at f69
      refine Stk.run 3 (fun t H n => t 72 = .sc (.bool false)) (fun J hJ => ?_) ?_
      · simp [-splice, f13, f69]
        exact hJ _ _ _ (by simp [-splice, f13, f69])
      clear f13 f69
      rintro t H n f72
      refine Stk.on ?_
      exact Stk.ln 0 (by decide) (hJ4 _ _ _ (f72.trans (congrArg (fun q => AV.sc (.bool q)) (by rw [hb4]; rfl))))
  clear f13 f69
  rintro t H n f72
  refine Stk.run 1 (fun t H n => t 0 = .sc (.bool ((v9 && (x8.2 == 0)) && (x8.1 == 42)))) (fun J hJ => ?_) ?_
  · simp [-splice, f72]
    exact hJ _ _ _ (by simp [-splice, f72])
  clear f72
  rintro t H n f0
  refine Stk.on ?_
  refine Stk.rt ?_
  have hq := Option.some.inj h; subst hq
  exact (hr _ _ _ (.sc (.bool ((v9 && (x8.2 == 0)) && (x8.1 == 42)))) ([]) (by simp [f0]) (.inr (.inr (.free (rfl))))).1
theorem ok_R13_less (F : Nat) (a0 : (Arr 12 Int)) (a1 : (Arr 12 Int)) (r : Bool) (h : R13_less F a0 a1 = some r) : RunF Try.prog T.T 66 [.agg (c95 a0), .agg (c95 a1)] (.sc (.bool r)) := by
  rw [R13_less] at h
  refine RunF.z Try.func66 rfl rfl rfl rfl rfl (fun C hr => ?_)
  refine Stk.gen (fun t H n => t 0 = .agg (c95 a0) ∧ t 1 = .agg (c95 a1)) ⟨by simp, by simp⟩ ?_
  rintro t H n ⟨f0, f1⟩
  refine Stk.sq ?_
  refine Stk.rg ?_
  refine Stk.om (mop_box T.t95 (cs := c95 a0) (by show partOk (t 0) = true; rw [f0]; rfl) (by show cellsOf (t 0) = _; rw [f0]; rfl)) (by simp [f0, f1]) rfl (fun t' ht' => ?_)
  refine Stk.gen (fun t H n => ∃ b1, t 1 = .agg (c95 a1) ∧ t 2 = .own b1 0 ∧ H b1 = some (.cells (c95 a0) 95) ∧ b1 < n) ⟨n, by simp [ht', f1], by simp [ht'], upd_same _ _ _, Nat.lt_succ_self _⟩ ?_
  clear f0 f1 ht' t'
  rintro t H n ⟨b1, f1, f2, b_b1, l_b1⟩
  refine Stk.om (mop_box T.t95 (cs := c95 a1) (by show partOk (t 1) = true; rw [f1]; rfl) (by show cellsOf (t 1) = _; rw [f1]; rfl)) (by simp [f1, f2]) rfl (fun t' ht' => ?_)
  refine Stk.gen (fun t H n => ∃ b2, t 2 = .own b1 0 ∧ t 3 = .own b2 0 ∧ H b1 = some (.cells (c95 a0) 95) ∧ b1 < n ∧ H b2 = some (.cells (c95 a1) 95) ∧ b2 < n ∧ b1 ≠ b2) ⟨n, by simp [ht', f2], by simp [ht'], (upd_ne _ _ (Nat.ne_of_lt l_b1)).trans b_b1, Nat.lt_succ_of_lt l_b1, upd_same _ _ _, Nat.lt_succ_self _, Nat.ne_of_lt l_b1⟩ ?_
  clear f1 f2 b_b1 l_b1 ht' t'
  rintro t H n ⟨b2, f2, f3, b_b1, l_b1, b_b2, l_b2, d_b1_b2⟩
  refine Stk.run 1 (fun t H n => t 2 = .own b1 0 ∧ t 3 = .own b2 0 ∧ H b1 = some (.cells (c95 a0) 95) ∧ b1 < n ∧ H b2 = some (.cells (c95 a1) 95) ∧ b2 < n ∧ b1 ≠ b2) (fun J hJ => ?_) ?_
  · simp [-splice, f2, f3, b_b1, b_b2]
    exact hJ _ _ _ ⟨by simp [f2], by simp [f3], b_b1, l_b1, b_b2, l_b2, d_b1_b2⟩
  clear f2 f3 b_b1 l_b1 b_b2 l_b2 d_b1_b2
  rintro t H n ⟨f2, f3, b_b1, l_b1, b_b2, l_b2, d_b1_b2⟩
  refine Stk.on ?_
  refine Stk.sq ?_
  refine Stk.sq ?_
  refine Stk.rg ?_
  refine Stk.run 1 (fun t H n => t 2 = .own b1 0 ∧ t 3 = .own b2 0 ∧ t 5 = .sc (.int .i64 0) ∧ H b1 = some (.cells (c95 a0) 95) ∧ b1 < n ∧ H b2 = some (.cells (c95 a1) 95) ∧ b2 < n ∧ b1 ≠ b2) (fun J hJ => ?_) ?_
  · simp [-splice, f2, f3, b_b1, b_b2]
    exact hJ _ _ _ ⟨by simp [f2], by simp [f3], by simp [-splice, f2, f3, b_b1, b_b2], b_b1, l_b1, b_b2, l_b2, d_b1_b2⟩
  clear f2 f3 b_b1 l_b1 b_b2 l_b2 d_b1_b2
  rintro t H n ⟨f2, f3, f5, b_b1, l_b1, b_b2, l_b2, d_b1_b2⟩
  refine Stk.on ?_
  refine Stk.bk ?_
  refine Stk.lo (fun μ t H n => ∃ v3 : Int, R13_less_L0 F a0 a1 μ v3 = some r ∧ t 2 = .own b1 0 ∧ t 3 = .own b2 0 ∧ t 5 = .sc (.int .i64 v3) ∧ H b1 = some (.cells (c95 a0) 95) ∧ b1 < n ∧ H b2 = some (.cells (c95 a1) 95) ∧ b2 < n ∧ b1 ≠ b2) F ⟨0, h, f2, f3, f5, b_b1, l_b1, b_b2, l_b2, d_b1_b2⟩ ?_
  clear h f2 f3 f5 b_b1 l_b1 b_b2 l_b2 d_b1_b2
  rintro J1 hJ1 μ t H n ⟨v3, h, f2, f3, f5, b_b1, l_b1, b_b2, l_b2, d_b1_b2⟩
  cases μ with
  | zero => exact absurd h (by simp [R13_less_L0])
  | succ μ =>
  rw [R13_less_L0] at h
  refine Stk.sq ?_
  refine Stk.sq ?_
  refine Stk.rg ?_
  refine Stk.run 2 (fun t H n => t 2 = .own b1 0 ∧ t 3 = .own b2 0 ∧ t 5 = .sc (.int .i64 v3) ∧ t 7 = .sc (.bool (decide (v3 < 12))) ∧ H b1 = some (.cells (c95 a0) 95) ∧ b1 < n ∧ H b2 = some (.cells (c95 a1) 95) ∧ b2 < n ∧ b1 ≠ b2) (fun J hJ => ?_) ?_
  · simp [-splice, f2, f3, f5, b_b1, b_b2]
    exact hJ _ _ _ ⟨by simp [f2], by simp [f3], by simp [f5], by simp [-splice, f2, f3, f5, b_b1, b_b2], b_b1, l_b1, b_b2, l_b2, d_b1_b2⟩
  clear f2 f3 f5 b_b1 l_b1 b_b2 l_b2 d_b1_b2
  rintro t H n ⟨f2, f3, f5, f7, b_b1, l_b1, b_b2, l_b2, d_b1_b2⟩
  refine Stk.on ?_
  refine Stk.cond (decide (v3 < 12)) (by exact f7) (fun hb5 => ?_) (fun hb5 => ?_)
  · have h := cT hb5 h
    refine Stk.sk ?_
    refine Stk.sq ?_
    refine Stk.bk ?_
    refine Stk.sq ?_
    obtain ⟨n0, hn0⟩ : ∃ m, m = n := ⟨n, rfl⟩
    have ln0 : n0 ≤ n := Nat.le_of_eq hn0
    refine Stk.rgD [.rd [], .rd [], .rd [b1], .rd [], .rd [], .rd [b2], .rd []] none (by kernel_rfl) (by rfl) rfl (by simp [below, hn0, l_b1, hn0, l_b2]) rfl ?_
    obtain ⟨x6, hx6, h⟩ := bnd h
    obtain ⟨i0x6, i1x6, i2x6, _⟩ := idx_ok hx6
    have i3x6 : v3 < 12 := by rw [a0.2] at i1x6; exact i1x6
    have i4x6 : v3.toNat < 12 := by omega
    have qx6 : partOf T.T 5 (c95 a0) v3.toNat = some (.sc (.int .u8 x6)) := by
      rw [c95]
      have e0 := part_elem0 (e := c5) (z := 1) (T := T.T) (ty := 5) T.t5 (by decide) (by decide) hx6 0 (by decide)
      (try simp only [Nat.mul_one, Nat.add_zero] at e0)
      exact e0.trans rfl
    obtain ⟨x7, hx7, h⟩ := bnd h
    obtain ⟨i0x7, i1x7, i2x7, _⟩ := idx_ok hx7
    have i3x7 : v3 < 12 := by rw [a1.2] at i1x7; exact i1x7
    have i4x7 : v3.toNat < 12 := by omega
    have qx7 : partOf T.T 5 (c95 a1) v3.toNat = some (.sc (.int .u8 x7)) := by
      rw [c95]
      have e0 := part_elem0 (e := c5) (z := 1) (T := T.T) (ty := 5) T.t5 (by decide) (by decide) hx7 0 (by decide)
      (try simp only [Nat.mul_one, Nat.add_zero] at e0)
      exact e0.trans rfl
    refine Stk.runD 7 (fun t H n => t 2 = .own b1 0 ∧ t 3 = .own b2 0 ∧ t 5 = .sc (.int .i64 v3) ∧ t 16 = .sc (.bool (x6 != x7)) ∧ H b1 = some (.cells (c95 a0) 95) ∧ b1 < n ∧ H b2 = some (.cells (c95 a1) 95) ∧ b2 < n ∧ b1 ≠ b2 ∧ n0 ≤ n) (fun J hJ => ?_) ?_
    · simp [-splice, f2, f3, f5, f7, b_b1, b_b2, i0x6, i1x6, i3x6, i4x6, qx6, i0x7, i1x7, i3x7, i4x7, qx7]
      exact hJ _ _ _ ⟨by simp [f2], by simp [f3], by simp [f5], by simp [-splice, f2, f3, f5, f7, b_b1, b_b2, i0x6, i1x6, i3x6, i4x6, qx6, i0x7, i1x7, i3x7, i4x7, qx7], b_b1, l_b1, b_b2, l_b2, d_b1_b2, ln0⟩
    clear f2 f3 f5 f7 b_b1 l_b1 b_b2 l_b2 d_b1_b2 ln0
    rintro t H n ⟨f2, f3, f5, f16, b_b1, l_b1, b_b2, l_b2, d_b1_b2, ln0⟩
    refine Stk.onD ?_
    refine Stk.cond (x6 != x7) (by exact f16) (fun hb8 => ?_) (fun hb8 => ?_)
    · have h := cT hb8 h
      refine Stk.sq ?_
      obtain ⟨n0, hn0⟩ : ∃ m, m = n := ⟨n, rfl⟩
      have ln0 : n0 ≤ n := Nat.le_of_eq hn0
      refine Stk.rgD [.rd [], .rd [], .rd [b1], .rd [], .rd [], .rd [b2], .rd [], .rd []] none (by kernel_rfl) (by rfl) rfl (by simp [below, hn0, l_b1, hn0, l_b2]) rfl ?_
      obtain ⟨x9, hx9, h⟩ := bnd h
      obtain ⟨i0x9, i1x9, i2x9, _⟩ := idx_ok hx9
      have i3x9 : v3 < 12 := by rw [a0.2] at i1x9; exact i1x9
      have i4x9 : v3.toNat < 12 := by omega
      have qx9 : partOf T.T 5 (c95 a0) v3.toNat = some (.sc (.int .u8 x9)) := by
        rw [c95]
        have e0 := part_elem0 (e := c5) (z := 1) (T := T.T) (ty := 5) T.t5 (by decide) (by decide) hx9 0 (by decide)
        (try simp only [Nat.mul_one, Nat.add_zero] at e0)
        exact e0.trans rfl
      obtain ⟨x10, hx10, h⟩ := bnd h
      obtain ⟨i0x10, i1x10, i2x10, _⟩ := idx_ok hx10
      have i3x10 : v3 < 12 := by rw [a1.2] at i1x10; exact i1x10
      have i4x10 : v3.toNat < 12 := by omega
      have qx10 : partOf T.T 5 (c95 a1) v3.toNat = some (.sc (.int .u8 x10)) := by
        rw [c95]
        have e0 := part_elem0 (e := c5) (z := 1) (T := T.T) (ty := 5) T.t5 (by decide) (by decide) hx10 0 (by decide)
        (try simp only [Nat.mul_one, Nat.add_zero] at e0)
        exact e0.trans rfl
      refine Stk.runD 8 (fun t H n => t 4 = .sc (.bool (decide (x9 < x10))) ∧ n0 ≤ n) (fun J hJ => ?_) ?_
      · simp [-splice, f2, f3, f5, f16, b_b1, b_b2, i0x9, i1x9, i3x9, i4x9, qx9, i0x10, i1x10, i3x10, i4x10, qx10]
        exact hJ _ _ _ ⟨by simp [-splice, f2, f3, f5, f16, b_b1, b_b2, i0x9, i1x9, i3x9, i4x9, qx9, i0x10, i1x10, i3x10, i4x10, qx10], ln0⟩
      clear f2 f3 f5 f16 b_b1 l_b1 b_b2 l_b2 d_b1_b2 ln0
      rintro t H n ⟨f4, ln0⟩
      refine Stk.onD ?_
      refine Stk.rt ?_
      have hq := Option.some.inj h; subst hq
      exact (hr _ _ _ (.sc (.bool (decide (x9 < x10)))) ([]) (by simp [f4]) (.inr (.inr (.free (rfl))))).1
    · have h := cF hb8 h
      refine Stk.sk ?_
      refine Stk.bn ?_
      refine Stk.rg ?_
      refine Stk.run 3 (fun t H n => t 2 = .own b1 0 ∧ t 3 = .own b2 0 ∧ t 5 = .sc (.int .i64 (IntKind.i64.wrap (v3 + 1))) ∧ H b1 = some (.cells (c95 a0) 95) ∧ b1 < n ∧ H b2 = some (.cells (c95 a1) 95) ∧ b2 < n ∧ b1 ≠ b2) (fun J hJ => ?_) ?_
      · simp [-splice, f2, f3, f5, f16, b_b1, b_b2]
        exact hJ _ _ _ ⟨by simp [f2], by simp [f3], by simp [-splice, f2, f3, f5, f16, b_b1, b_b2], b_b1, l_b1, b_b2, l_b2, d_b1_b2⟩
      clear f2 f3 f5 f16 b_b1 l_b1 b_b2 l_b2 d_b1_b2 ln0
      rintro t H n ⟨f2, f3, f5, b_b1, l_b1, b_b2, l_b2, d_b1_b2⟩
      refine Stk.on ?_
      exact Stk.ln μ (Nat.lt_succ_self _) (hJ1 _ _ _ _ ⟨(IntKind.i64.wrap (v3 + 1)), h, f2, f3, f5, b_b1, l_b1, b_b2, l_b2, d_b1_b2⟩)
  · have h := cF hb5 h
    refine Stk.ex rfl ?_
    refine Stk.sq ?_
    refine Stk.rg ?_
    refine Stk.run 1 (fun t H n => t 4 = .sc (.bool false)) (fun J hJ => ?_) ?_
    · simp [-splice, f2, f3, f5, f7, b_b1, b_b2]
      exact hJ _ _ _ (by simp [-splice, f2, f3, f5, f7, b_b1, b_b2])
    clear f2 f3 f5 f7 b_b1 l_b1 b_b2 l_b2 d_b1_b2
    rintro t H n f4
    refine Stk.on ?_
    refine Stk.rt ?_
    have hq := Option.some.inj h; subst hq
    exact (hr _ _ _ (.sc (.bool false)) ([]) (by simp [f4]) (.inr (.inr (.free (rfl))))).1
end Go.Proofs.Ytfbkgjmpadknfaa.M
