/-
  The functions come to them.
-/
import Derived.Test.YtfbkgjmpadknfaaGM
import Derived.Test.YtfbkgjmpadknfaaGW0
namespace Go.Proofs.Ytfbkgjmpadknfaa.M
open Go.Proofs.YtfbkgjmpadknfaaW.Ah Go.Proofs.Ytfbkgjmpadknfaa
set_option linter.unusedVariables false
set_option linter.unusedSimpArgs false
set_option maxRecDepth 8000
attribute [local simp] T.t2 T.t3 T.t4 T.t5 T.t37 T.t45 T.t95 T.t97 List.range List.range.loop
attribute [-simp] appendAV fillAV
theorem ok_R13_term (F : Nat) (a0 : api_Term) (a1 : (List Int)) (r : (Int × Int)) (h : R13_term F a0 a1 = some r) : RunF Try.prog T.T 72 [.agg (c97 a0), .ssl (encs c2 a1) a1.length false] (.tup [.sc (.int .i64 r.1), .sc (.int .i64 r.2)]) := by
  rw [R13_term] at h
  refine RunF.z Try.func72 rfl rfl rfl rfl rfl (fun C hr => ?_)
  refine Stk.gen (fun t H n => t 0 = .agg (c97 a0) ∧ t 1 = .ssl (encs c2 a1) a1.length false) ⟨by simp, by simp⟩ ?_
  rintro t H n ⟨f0, f1⟩
  refine Stk.sq ?_
  refine Stk.rg ?_
  refine Stk.om (mop_box T.t97 (cs := c97 a0) (by show partOk (t 0) = true; rw [f0]; rfl) (by show cellsOf (t 0) = _; rw [f0]; rfl)) (by simp [f0, f1]) rfl (fun t' ht' => ?_)
  refine Stk.gen (fun t H n => ∃ b1, t 1 = .ssl (encs c2 a1) a1.length false ∧ t 2 = .own b1 0 ∧ H b1 = some (.cells (c97 a0) 97) ∧ b1 < n) ⟨n, by simp [ht', f1], by simp [ht'], upd_same _ _ _, Nat.lt_succ_self _⟩ ?_
  clear f0 f1 ht' t'
  rintro t H n ⟨b1, f1, f2, b_b1, l_b1⟩
  refine Stk.run 2 (fun t H n => t 1 = .ssl (encs c2 a1) a1.length false ∧ t 2 = .own b1 0 ∧ H b1 = some (.cells (c97 a0) 97) ∧ b1 < n) (fun J hJ => ?_) ?_
  · simp [-splice, f1, f2, b_b1]
    exact hJ _ _ _ ⟨by simp [f1], by simp [f2], b_b1, l_b1⟩
  clear f1 f2 b_b1 l_b1
  rintro t H n ⟨f1, f2, b_b1, l_b1⟩
  refine Stk.on ?_
  refine Stk.sq ?_
  refine Stk.sq ?_
  refine Stk.rg ?_
  refine Stk.run 1 (fun t H n => t 1 = .ssl (encs c2 a1) a1.length false ∧ t 2 = .own b1 0 ∧ t 6 = .sc (.int .i64 0) ∧ H b1 = some (.cells (c97 a0) 97) ∧ b1 < n) (fun J hJ => ?_) ?_
  · simp [-splice, f1, f2, b_b1]
    exact hJ _ _ _ ⟨by simp [f1], by simp [f2], by simp [-splice, f1, f2, b_b1], b_b1, l_b1⟩
  clear f1 f2 b_b1 l_b1
  rintro t H n ⟨f1, f2, f6, b_b1, l_b1⟩
  refine Stk.on ?_
  obtain ⟨K1, hK1, h⟩ := jnd h
  refine Stk.jn (fun t H n => K1 () = some r ∧ t 1 = .ssl (encs c2 a1) a1.length false ∧ t 2 = .own b1 0 ∧ H b1 = some (.cells (c97 a0) 97) ∧ b1 < n) trivial (fun J1 hJ1 => ?_) ?_
  · skip
    refine Stk.bk ?_
    refine Stk.lo (fun μ t H n => ∃ v2 : Int, R13_term_L0 F a0 a1 K1 μ v2 = some r ∧ t 1 = .ssl (encs c2 a1) a1.length false ∧ t 2 = .own b1 0 ∧ t 6 = .sc (.int .i64 v2) ∧ H b1 = some (.cells (c97 a0) 97) ∧ b1 < n) F ⟨0, h, f1, f2, f6, b_b1, l_b1⟩ ?_
    clear h f1 f2 f6 b_b1 l_b1
    rintro J2 hJ2 μ t H n ⟨v2, h, f1, f2, f6, b_b1, l_b1⟩
    cases μ with
    | zero => exact absurd h (by simp [R13_term_L0])
    | succ μ =>
    rw [R13_term_L0] at h
    refine Stk.sq ?_
    refine Stk.sq ?_
    refine Stk.rg ?_
    refine Stk.run 2 (fun t H n => t 1 = .ssl (encs c2 a1) a1.length false ∧ t 2 = .own b1 0 ∧ t 6 = .sc (.int .i64 v2) ∧ t 11 = .sc (.bool (decide (v2 < 12))) ∧ H b1 = some (.cells (c97 a0) 97) ∧ b1 < n) (fun J hJ => ?_) ?_
    · simp [-splice, f1, f2, f6, b_b1]
      exact hJ _ _ _ ⟨by simp [f1], by simp [f2], by simp [f6], by simp [-splice, f1, f2, f6, b_b1], b_b1, l_b1⟩
    clear f1 f2 f6 b_b1 l_b1
    rintro t H n ⟨f1, f2, f6, f11, b_b1, l_b1⟩
    refine Stk.on ?_
    refine Stk.cond (decide (v2 < 12)) (by exact f11) (fun hb4 => ?_) (fun hb4 => ?_)
    · have h := cT hb4 h
      refine Stk.sk ?_
      refine Stk.sq ?_
      refine Stk.bk ?_
      refine Stk.sq ?_
      refine Stk.rg ?_
      obtain ⟨x5, hx5, h⟩ := bnd h
      obtain ⟨i0x5, i1x5, i2x5, _⟩ := idx_ok hx5
      have i3x5 : v2 < 12 := by rw [a0.Exps.2] at i1x5; exact i1x5
      have i4x5 : v2.toNat < 12 := by omega
      have qx5 : partOf T.T 5 (c97 a0) v2.toNat = some (.sc (.int .u8 x5)) := by
        rw [c97]
        rw [part_head T.t5 (by decide) (by rw [Enc.len (e := c95)]; show _ + 1 ≤ _; omega)]
        rw [c95]
        have e0 := part_elem0 (e := c5) (z := 1) (T := T.T) (ty := 5) T.t5 (by decide) (by decide) hx5 0 (by decide)
        (try simp only [Nat.mul_one, Nat.add_zero] at e0)
        exact e0.trans rfl
      refine Stk.run 6 (fun t H n => t 1 = .ssl (encs c2 a1) a1.length false ∧ t 2 = .own b1 0 ∧ t 6 = .sc (.int .i64 v2) ∧ t 19 = .sc (.bool (decide (0 < x5))) ∧ H b1 = some (.cells (c97 a0) 97) ∧ b1 < n) (fun J hJ => ?_) ?_
      · simp [-splice, f1, f2, f6, f11, b_b1, i0x5, i1x5, i3x5, i4x5, qx5]
        exact hJ _ _ _ ⟨by simp [f1], by simp [f2], by simp [f6], by simp [-splice, f1, f2, f6, f11, b_b1, i0x5, i1x5, i3x5, i4x5, qx5], b_b1, l_b1⟩
      clear f1 f2 f6 f11 b_b1 l_b1
      rintro t H n ⟨f1, f2, f6, f19, b_b1, l_b1⟩
      obtain ⟨K3, hK3, h⟩ := jnd h
      refine Stk.jo 12 (fun t H n => ∃ v6 : Bool, K3 v6 = some r ∧ t 1 = .ssl (encs c2 a1) a1.length false ∧ t 2 = .own b1 0 ∧ t 6 = .sc (.int .i64 v2) ∧ t 31 = .sc (.bool v6) ∧ H b1 = some (.cells (c97 a0) 97) ∧ b1 < n) (fun J3 hJ3 => ?_) ?_
      · rcases Bool.eq_false_or_eq_true (decide (0 < x5)) with hb3 | hb3
        · rw [hb3] at f19
          replace h := cT hb3 h
          refine Stk.run 5 (fun t H n => t 1 = .ssl (encs c2 a1) a1.length false ∧ t 2 = .own b1 0 ∧ t 6 = .sc (.int .i64 v2) ∧ t 19 = .sc (.bool true) ∧ t 24 = .sc (.bool (decide ((a1.length : Int) ≤ v2))) ∧ H b1 = some (.cells (c97 a0) 97) ∧ b1 < n) (fun J hJ => ?_) ?_
          · simp [-splice, f1, f2, f6, f19, b_b1]
            exact hJ _ _ _ ⟨by simp [f1], by simp [f2], by simp [f6], by simp [f19], by simp [-splice, f1, f2, f6, f19, b_b1], b_b1, l_b1⟩
          clear f1 f2 f6 f19 b_b1 l_b1
          rintro t H n ⟨f1, f2, f6, f19, f24, b_b1, l_b1⟩
          obtain ⟨K4, hK4, h⟩ := jnd h
          refine Stk.jo 6 (fun t H n => ∃ v7 : Bool, K4 v7 = some r ∧ t 1 = .ssl (encs c2 a1) a1.length false ∧ t 2 = .own b1 0 ∧ t 6 = .sc (.int .i64 v2) ∧ t 19 = .sc (.bool true) ∧ t 30 = .sc (.bool v7) ∧ H b1 = some (.cells (c97 a0) 97) ∧ b1 < n) (fun J4 hJ4 => ?_) ?_
          · rcases Bool.eq_false_or_eq_true (decide ((a1.length : Int) ≤ v2)) with hb4 | hb4
            · rw [hb4] at f24
              replace h := cT hb4 h
              refine Stk.run 6 (fun t H n => t 1 = .ssl (encs c2 a1) a1.length false ∧ t 2 = .own b1 0 ∧ t 6 = .sc (.int .i64 v2) ∧ t 19 = .sc (.bool true) ∧ t 30 = .sc (.bool true) ∧ H b1 = some (.cells (c97 a0) 97) ∧ b1 < n) (fun J hJ => ?_) ?_
              · simp [-splice, f1, f2, f6, f19, f24, b_b1]
                exact hJ _ _ _ ⟨by simp [f1], by simp [f2], by simp [f6], by simp [f19], by simp [-splice, f1, f2, f6, f19, f24, b_b1], b_b1, l_b1⟩
              clear f1 f2 f6 f19 f24 b_b1 l_b1
              rintro t H n ⟨f1, f2, f6, f19, f30, b_b1, l_b1⟩
              refine Stk.on ?_
              exact Stk.ln 0 (by decide) (hJ4 _ _ _ ⟨true, h, f1, f2, f6, f19, f30, b_b1, l_b1⟩)
            · rw [hb4] at f24
              replace h := cF hb4 h
              obtain ⟨x8, hx8, h⟩ := bnd h
              obtain ⟨i0x8, i1x8, i2x8, _⟩ := idx_ok hx8
              have ex8_0_2 : partOf T.T 2 (encs c2 a1) (v2.toNat) = some (.sc (.int .i64 x8)) := by
                  have e0 := part_elem0 (e := c2) (z := 1) (T := T.T) (ty := 2) T.t2 (by decide) (by decide) hx8 0 (by decide)
                  (try simp only [Nat.mul_one, Nat.add_zero] at e0)
                  exact e0.trans rfl
              refine Stk.run 6 (fun t H n => t 1 = .ssl (encs c2 a1) a1.length false ∧ t 2 = .own b1 0 ∧ t 6 = .sc (.int .i64 v2) ∧ t 19 = .sc (.bool true) ∧ t 30 = .sc (.bool (decide (x8 < 1))) ∧ H b1 = some (.cells (c97 a0) 97) ∧ b1 < n) (fun J hJ => ?_) ?_
              · simp [-splice, f1, f2, f6, f19, f24, b_b1, i0x8, i1x8, pd2, ex8_0_2]
                exact hJ _ _ _ ⟨by simp [f1], by simp [f2], by simp [f6], by simp [f19], by simp [-splice, f1, f2, f6, f19, f24, b_b1, i0x8, i1x8, pd2, ex8_0_2], b_b1, l_b1⟩
              clear f1 f2 f6 f19 f24 b_b1 l_b1
              rintro t H n ⟨f1, f2, f6, f19, f30, b_b1, l_b1⟩
              refine Stk.on ?_
              exact Stk.ln 0 (by decide) (hJ4 _ _ _ ⟨(decide (x8 < 1)), h, f1, f2, f6, f19, f30, b_b1, l_b1⟩)
          clear h f1 f2 f6 f19 f24 b_b1 l_b1
          rintro t H n ⟨v7, h, f1, f2, f6, f19, f30, b_b1, l_b1⟩
          subst hK4
          refine Stk.run 1 (fun t H n => t 1 = .ssl (encs c2 a1) a1.length false ∧ t 2 = .own b1 0 ∧ t 6 = .sc (.int .i64 v2) ∧ t 31 = .sc (.bool v7) ∧ H b1 = some (.cells (c97 a0) 97) ∧ b1 < n) (fun J hJ => ?_) ?_
          · simp [-splice, f1, f2, f6, f19, f30, b_b1]
            exact hJ _ _ _ ⟨by simp [f1], by simp [f2], by simp [f6], by simp [-splice, f1, f2, f6, f19, f30, b_b1], b_b1, l_b1⟩
          clear f1 f2 f6 f19 f30 b_b1 l_b1
          rintro t H n ⟨f1, f2, f6, f31, b_b1, l_b1⟩
          refine Stk.on ?_
          exact Stk.ln 0 (by decide) (hJ3 _ _ _ ⟨v7, h, f1, f2, f6, f31, b_b1, l_b1⟩)
        · rw [hb3] at f19
          replace h := cF hb3 h
          refine Stk.run 12 (fun t H n => t 1 = .ssl (encs c2 a1) a1.length false ∧ t 2 = .own b1 0 ∧ t 6 = .sc (.int .i64 v2) ∧ t 31 = .sc (.bool false) ∧ H b1 = some (.cells (c97 a0) 97) ∧ b1 < n) (fun J hJ => ?_) ?_
          · simp [-splice, f1, f2, f6, f19, b_b1]
            exact hJ _ _ _ ⟨by simp [f1], by simp [f2], by simp [f6], by simp [-splice, f1, f2, f6, f19, b_b1], b_b1, l_b1⟩
          clear f1 f2 f6 f19 b_b1 l_b1
          rintro t H n ⟨f1, f2, f6, f31, b_b1, l_b1⟩
          refine Stk.on ?_
          exact Stk.ln 0 (by decide) (hJ3 _ _ _ ⟨false, h, f1, f2, f6, f31, b_b1, l_b1⟩)
      clear h f1 f2 f6 f19 b_b1 l_b1
      rintro t H n ⟨v6, h, f1, f2, f6, f31, b_b1, l_b1⟩
      subst hK3
      refine Stk.on ?_
      refine Stk.cond v6 (by exact f31) (fun hb9 => ?_) (fun hb9 => ?_)
      · have h := cT hb9 h
        refine Stk.sq ?_
        refine Stk.rg ?_
        refine Stk.run 2 (fun t H n => t 4 = .sc (.int .i64 0) ∧ t 5 = .sc (.int .i64 0)) (fun J hJ => ?_) ?_
        · simp [-splice, f1, f2, f6, f31, b_b1]
          exact hJ _ _ _ ⟨by simp [-splice, f1, f2, f6, f31, b_b1], by simp [-splice, f1, f2, f6, f31, b_b1]⟩
        clear f1 f2 f6 f31 b_b1 l_b1
        rintro t H n ⟨f4, f5⟩
        refine Stk.on ?_
        refine Stk.rt ?_
        have hq := Option.some.inj h; subst hq
        exact (hr _ _ _ (.tup [.sc (.int .i64 0), .sc (.int .i64 0)]) ([]) (by simp [f4, f5]) (.inr (.inr (.tup (.cons (.free (rfl)) (.cons (.free (rfl)) (.nil))))))).1
      · have h := cF hb9 h
        refine Stk.sk ?_
        refine Stk.bn ?_
        refine Stk.rg ?_
        refine Stk.run 3 (fun t H n => t 1 = .ssl (encs c2 a1) a1.length false ∧ t 2 = .own b1 0 ∧ t 6 = .sc (.int .i64 (IntKind.i64.wrap (v2 + 1))) ∧ H b1 = some (.cells (c97 a0) 97) ∧ b1 < n) (fun J hJ => ?_) ?_
        · simp [-splice, f1, f2, f6, f31, b_b1]
          exact hJ _ _ _ ⟨by simp [f1], by simp [f2], by simp [-splice, f1, f2, f6, f31, b_b1], b_b1, l_b1⟩
        clear f1 f2 f6 f31 b_b1 l_b1
        rintro t H n ⟨f1, f2, f6, b_b1, l_b1⟩
        refine Stk.on ?_
        exact Stk.ln μ (Nat.lt_succ_self _) (hJ2 _ _ _ _ ⟨(IntKind.i64.wrap (v2 + 1)), h, f1, f2, f6, b_b1, l_b1⟩)
    · have h := cF hb4 h
      refine Stk.ex rfl ?_
      exact Stk.ln 0 (by decide) (hJ1 _ _ _ ⟨h, f1, f2, b_b1, l_b1⟩)
  clear h f1 f2 f6 b_b1 l_b1
  rintro t H n ⟨h, f1, f2, b_b1, l_b1⟩
  subst hK1
  refine Stk.sq ?_
  refine Stk.rg ?_
  refine Stk.run 3 (fun t H n => t 1 = .ssl (encs c2 a1) a1.length false ∧ t 2 = .own b1 0 ∧ t 7 = .sc (.int .i64 a0.Coef) ∧ H b1 = some (.cells (c97 a0) 97) ∧ b1 < n) (fun J hJ => ?_) ?_
  · simp [-splice, f1, f2, b_b1, ld_97_12_2]
    exact hJ _ _ _ ⟨by simp [f1], by simp [f2], by simp [-splice, f1, f2, b_b1, ld_97_12_2], b_b1, l_b1⟩
  clear f1 f2 b_b1 l_b1
  rintro t H n ⟨f1, f2, f7, b_b1, l_b1⟩
  refine Stk.on ?_
  refine Stk.sq ?_
  refine Stk.sq ?_
  refine Stk.rg ?_
  refine Stk.run 1 (fun t H n => t 1 = .ssl (encs c2 a1) a1.length false ∧ t 2 = .own b1 0 ∧ t 7 = .sc (.int .i64 a0.Coef) ∧ t 8 = .sc (.int .i64 0) ∧ H b1 = some (.cells (c97 a0) 97) ∧ b1 < n) (fun J hJ => ?_) ?_
  · simp [-splice, f1, f2, f7, b_b1]
    exact hJ _ _ _ ⟨by simp [f1], by simp [f2], by simp [f7], by simp [-splice, f1, f2, f7, b_b1], b_b1, l_b1⟩
  clear f1 f2 f7 b_b1 l_b1
  rintro t H n ⟨f1, f2, f7, f8, b_b1, l_b1⟩
  refine Stk.on ?_
  refine Stk.bk ?_
  refine Stk.lo (fun μ t H n => ∃ v10 : Int, ∃ v11 : Int, R13_term_L1 F a0 a1 μ v10 v11 = some r ∧ t 1 = .ssl (encs c2 a1) a1.length false ∧ t 2 = .own b1 0 ∧ t 7 = .sc (.int .i64 v10) ∧ t 8 = .sc (.int .i64 v11) ∧ H b1 = some (.cells (c97 a0) 97) ∧ b1 < n) F ⟨a0.Coef, 0, h, f1, f2, f7, f8, b_b1, l_b1⟩ ?_
  clear h f1 f2 f7 f8 b_b1 l_b1
  rintro J5 hJ5 μ t H n ⟨v10, v11, h, f1, f2, f7, f8, b_b1, l_b1⟩
  cases μ with
  | zero => exact absurd h (by simp [R13_term_L1])
  | succ μ =>
  rw [R13_term_L1] at h
  refine Stk.sq ?_
  refine Stk.sq ?_
  refine Stk.rg ?_
  refine Stk.run 2 (fun t H n => t 1 = .ssl (encs c2 a1) a1.length false ∧ t 2 = .own b1 0 ∧ t 7 = .sc (.int .i64 v10) ∧ t 8 = .sc (.int .i64 v11) ∧ t 35 = .sc (.bool (decide (v11 < 12))) ∧ H b1 = some (.cells (c97 a0) 97) ∧ b1 < n) (fun J hJ => ?_) ?_
  · simp [-splice, f1, f2, f7, f8, b_b1]
    exact hJ _ _ _ ⟨by simp [f1], by simp [f2], by simp [f7], by simp [f8], by simp [-splice, f1, f2, f7, f8, b_b1], b_b1, l_b1⟩
  clear f1 f2 f7 f8 b_b1 l_b1
  rintro t H n ⟨f1, f2, f7, f8, f35, b_b1, l_b1⟩
  refine Stk.on ?_
  refine Stk.cond (decide (v11 < 12)) (by exact f35) (fun hb14 => ?_) (fun hb14 => ?_)
  · have h := cT hb14 h
    refine Stk.sk ?_
    refine Stk.sq ?_
    refine Stk.bk ?_
    refine Stk.sq ?_
    refine Stk.rg ?_
    refine Stk.run 1 (fun t H n => t 1 = .ssl (encs c2 a1) a1.length false ∧ t 2 = .own b1 0 ∧ t 7 = .sc (.int .i64 v10) ∧ t 8 = .sc (.int .i64 v11) ∧ t 9 = .sc (.int .i64 0) ∧ H b1 = some (.cells (c97 a0) 97) ∧ b1 < n) (fun J hJ => ?_) ?_
    · simp [-splice, f1, f2, f7, f8, f35, b_b1]
      exact hJ _ _ _ ⟨by simp [f1], by simp [f2], by simp [f7], by simp [f8], by simp [-splice, f1, f2, f7, f8, f35, b_b1], b_b1, l_b1⟩
    clear f1 f2 f7 f8 f35 b_b1 l_b1
    rintro t H n ⟨f1, f2, f7, f8, f9, b_b1, l_b1⟩
    refine Stk.on ?_
    obtain ⟨K6, hK6, h⟩ := jnd h
    refine Stk.jn (fun t H n => ∃ v15 : Int, K6 v15 = some r ∧ t 1 = .ssl (encs c2 a1) a1.length false ∧ t 2 = .own b1 0 ∧ t 7 = .sc (.int .i64 v15) ∧ t 8 = .sc (.int .i64 v11) ∧ H b1 = some (.cells (c97 a0) 97) ∧ b1 < n) trivial (fun J6 hJ6 => ?_) ?_
    · skip
      refine Stk.bk ?_
      refine Stk.lo (fun μ t H n => ∃ v16 : Int, ∃ v17 : Int, R13_term_L2 F a0 a1 v11 K6 μ v16 v17 = some r ∧ t 1 = .ssl (encs c2 a1) a1.length false ∧ t 2 = .own b1 0 ∧ t 7 = .sc (.int .i64 v16) ∧ t 8 = .sc (.int .i64 v11) ∧ t 9 = .sc (.int .i64 v17) ∧ H b1 = some (.cells (c97 a0) 97) ∧ b1 < n) F ⟨v10, 0, h, f1, f2, f7, f8, f9, b_b1, l_b1⟩ ?_
      clear h f1 f2 f7 f8 f9 b_b1 l_b1
      rintro J7 hJ7 μ t H n ⟨v16, v17, h, f1, f2, f7, f8, f9, b_b1, l_b1⟩
      cases μ with
      | zero => exact absurd h (by simp [R13_term_L2])
      | succ μ =>
      rw [R13_term_L2] at h
      refine Stk.sq ?_
      refine Stk.sq ?_
      refine Stk.rg ?_
      obtain ⟨x20, hx20, h⟩ := bnd h
      obtain ⟨i0x20, i1x20, i2x20, _⟩ := idx_ok hx20
      have i3x20 : v11 < 12 := by rw [a0.Exps.2] at i1x20; exact i1x20
      have i4x20 : v11.toNat < 12 := by omega
      have qx20 : partOf T.T 5 (c97 a0) v11.toNat = some (.sc (.int .u8 x20)) := by
        rw [c97]
        rw [part_head T.t5 (by decide) (by rw [Enc.len (e := c95)]; show _ + 1 ≤ _; omega)]
        rw [c95]
        have e0 := part_elem0 (e := c5) (z := 1) (T := T.T) (ty := 5) T.t5 (by decide) (by decide) hx20 0 (by decide)
        (try simp only [Nat.mul_one, Nat.add_zero] at e0)
        exact e0.trans rfl
      refine Stk.run 7 (fun t H n => t 1 = .ssl (encs c2 a1) a1.length false ∧ t 2 = .own b1 0 ∧ t 7 = .sc (.int .i64 v16) ∧ t 8 = .sc (.int .i64 v11) ∧ t 9 = .sc (.int .i64 v17) ∧ t 44 = .sc (.bool (decide (v17 < (IntKind.i64.wrap x20)))) ∧ H b1 = some (.cells (c97 a0) 97) ∧ b1 < n) (fun J hJ => ?_) ?_
      · simp [-splice, f1, f2, f7, f8, f9, b_b1, i0x20, i1x20, i3x20, i4x20, qx20]
        exact hJ _ _ _ ⟨by simp [f1], by simp [f2], by simp [f7], by simp [f8], by simp [f9], by simp [-splice, f1, f2, f7, f8, f9, b_b1, i0x20, i1x20, i3x20, i4x20, qx20], b_b1, l_b1⟩
      clear f1 f2 f7 f8 f9 b_b1 l_b1
      rintro t H n ⟨f1, f2, f7, f8, f9, f44, b_b1, l_b1⟩
      refine Stk.on ?_
      refine Stk.cond (decide (v17 < (IntKind.i64.wrap x20))) (by exact f44) (fun hb21 => ?_) (fun hb21 => ?_)
      · have h := cT hb21 h
        refine Stk.sk ?_
        refine Stk.sq ?_
        refine Stk.bk ?_
        refine Stk.sq ?_
        refine Stk.sq ?_
        refine Stk.rg ?_
        obtain ⟨x22, hx22, h⟩ := bnd h
        obtain ⟨i0x22, i1x22, i2x22, _⟩ := idx_ok hx22
        have ex22_0_2 : partOf T.T 2 (encs c2 a1) (v11.toNat) = some (.sc (.int .i64 x22)) := by
            have e0 := part_elem0 (e := c2) (z := 1) (T := T.T) (ty := 2) T.t2 (by decide) (by decide) hx22 0 (by decide)
            (try simp only [Nat.mul_one, Nat.add_zero] at e0)
            exact e0.trans rfl
        obtain ⟨x23, hx23, h⟩ := bnd h
        obtain ⟨nx23, ex23⟩ := quoM_ok hx23
        refine Stk.run 7 (fun t H n => t 1 = .ssl (encs c2 a1) a1.length false ∧ t 2 = .own b1 0 ∧ t 7 = .sc (.int .i64 v16) ∧ t 8 = .sc (.int .i64 v11) ∧ t 9 = .sc (.int .i64 v17) ∧ t 53 = .sc (.bool (decide (x23 < v16))) ∧ H b1 = some (.cells (c97 a0) 97) ∧ b1 < n) (fun J hJ => ?_) ?_
        · simp [-splice, f1, f2, f7, f8, f9, f44, b_b1, i0x22, i1x22, pd2, ex22_0_2, nx23, ex23]
          exact hJ _ _ _ ⟨by simp [f1], by simp [f2], by simp [f7], by simp [f8], by simp [f9], by simp [-splice, f1, f2, f7, f8, f9, f44, b_b1, i0x22, i1x22, pd2, ex22_0_2, nx23, ex23], b_b1, l_b1⟩
        clear f1 f2 f7 f8 f9 f44 b_b1 l_b1
        rintro t H n ⟨f1, f2, f7, f8, f9, f53, b_b1, l_b1⟩
        refine Stk.on ?_
        refine Stk.cond (decide (x23 < v16)) (by exact f53) (fun hb24 => ?_) (fun hb24 => ?_)
        · have h := cT hb24 h
          refine Stk.sq ?_
          refine Stk.rg ?_
          refine Stk.run 2 (fun t H n => t 4 = .sc (.int .i64 0) ∧ t 5 = .sc (.int .i64 17)) (fun J hJ => ?_) ?_
          · simp [-splice, f1, f2, f7, f8, f9, f53, b_b1]
            exact hJ _ _ _ ⟨by simp [-splice, f1, f2, f7, f8, f9, f53, b_b1], by simp [-splice, f1, f2, f7, f8, f9, f53, b_b1]⟩
          clear f1 f2 f7 f8 f9 f53 b_b1 l_b1
          rintro t H n ⟨f4, f5⟩
          refine Stk.on ?_
          refine Stk.rt ?_
          have hq := Option.some.inj h; subst hq
          exact (hr _ _ _ (.tup [.sc (.int .i64 0), .sc (.int .i64 17)]) ([]) (by simp [f4, f5]) (.inr (.inr (.tup (.cons (.free (rfl)) (.cons (.free (rfl)) (.nil))))))).1
        · have h := cF hb24 h
          refine Stk.sk ?_
          refine Stk.rg ?_
          obtain ⟨x25, hx25, h⟩ := bnd h
          obtain ⟨i0x25, i1x25, i2x25, _⟩ := idx_ok hx25
          have ex25_0_2 : partOf T.T 2 (encs c2 a1) (v11.toNat) = some (.sc (.int .i64 x25)) := by
              have e0 := part_elem0 (e := c2) (z := 1) (T := T.T) (ty := 2) T.t2 (by decide) (by decide) hx25 0 (by decide)
              (try simp only [Nat.mul_one, Nat.add_zero] at e0)
              exact e0.trans rfl
          refine Stk.run 7 (fun t H n => t 1 = .ssl (encs c2 a1) a1.length false ∧ t 2 = .own b1 0 ∧ t 7 = .sc (.int .i64 (IntKind.i64.wrap (v16 * x25))) ∧ t 8 = .sc (.int .i64 v11) ∧ t 9 = .sc (.int .i64 v17) ∧ H b1 = some (.cells (c97 a0) 97) ∧ b1 < n) (fun J hJ => ?_) ?_
          · simp [-splice, f1, f2, f7, f8, f9, f53, b_b1, i0x25, i1x25, pd2, ex25_0_2]
            exact hJ _ _ _ ⟨by simp [f1], by simp [f2], by simp [-splice, f1, f2, f7, f8, f9, f53, b_b1, i0x25, i1x25, pd2, ex25_0_2], by simp [f8], by simp [f9], b_b1, l_b1⟩
          clear f1 f2 f7 f8 f9 f53 b_b1 l_b1
          rintro t H n ⟨f1, f2, f7, f8, f9, b_b1, l_b1⟩
          refine Stk.on ?_
          refine Stk.bn ?_
          refine Stk.rg ?_
          refine Stk.run 3 (fun t H n => t 1 = .ssl (encs c2 a1) a1.length false ∧ t 2 = .own b1 0 ∧ t 7 = .sc (.int .i64 (IntKind.i64.wrap (v16 * x25))) ∧ t 8 = .sc (.int .i64 v11) ∧ t 9 = .sc (.int .i64 (IntKind.i64.wrap (v17 + 1))) ∧ H b1 = some (.cells (c97 a0) 97) ∧ b1 < n) (fun J hJ => ?_) ?_
          · simp [-splice, f1, f2, f7, f8, f9, b_b1]
            exact hJ _ _ _ ⟨by simp [f1], by simp [f2], by simp [f7], by simp [f8], by simp [-splice, f1, f2, f7, f8, f9, b_b1], b_b1, l_b1⟩
          clear f1 f2 f7 f8 f9 b_b1 l_b1
          rintro t H n ⟨f1, f2, f7, f8, f9, b_b1, l_b1⟩
          refine Stk.on ?_
          exact Stk.ln μ (Nat.lt_succ_self _) (hJ7 _ _ _ _ ⟨(IntKind.i64.wrap (v16 * x25)), (IntKind.i64.wrap (v17 + 1)), h, f1, f2, f7, f8, f9, b_b1, l_b1⟩)
      · have h := cF hb21 h
        refine Stk.ex rfl ?_
        exact Stk.ln 0 (by decide) (hJ6 _ _ _ ⟨v16, h, f1, f2, f7, f8, b_b1, l_b1⟩)
    clear h f1 f2 f7 f8 f9 b_b1 l_b1
    rintro t H n ⟨v15, h, f1, f2, f7, f8, b_b1, l_b1⟩
    subst hK6
    refine Stk.bn ?_
    refine Stk.rg ?_
    refine Stk.run 3 (fun t H n => t 1 = .ssl (encs c2 a1) a1.length false ∧ t 2 = .own b1 0 ∧ t 7 = .sc (.int .i64 v15) ∧ t 8 = .sc (.int .i64 (IntKind.i64.wrap (v11 + 1))) ∧ H b1 = some (.cells (c97 a0) 97) ∧ b1 < n) (fun J hJ => ?_) ?_
    · simp [-splice, f1, f2, f7, f8, b_b1]
      exact hJ _ _ _ ⟨by simp [f1], by simp [f2], by simp [f7], by simp [-splice, f1, f2, f7, f8, b_b1], b_b1, l_b1⟩
    clear f1 f2 f7 f8 b_b1 l_b1
    rintro t H n ⟨f1, f2, f7, f8, b_b1, l_b1⟩
    refine Stk.on ?_
    exact Stk.ln μ (Nat.lt_succ_self _) (hJ5 _ _ _ _ ⟨v15, (IntKind.i64.wrap (v11 + 1)), h, f1, f2, f7, f8, b_b1, l_b1⟩)
  · have h := cF hb14 h
    refine Stk.ex rfl ?_
    refine Stk.sq ?_
    refine Stk.rg ?_
    refine Stk.run 3 (fun t H n => t 4 = .sc (.int .i64 v10) ∧ t 5 = .sc (.int .i64 0)) (fun J hJ => ?_) ?_
    · simp [-splice, f1, f2, f7, f8, f35, b_b1]
      exact hJ _ _ _ ⟨by simp [-splice, f1, f2, f7, f8, f35, b_b1], by simp [-splice, f1, f2, f7, f8, f35, b_b1]⟩
    clear f1 f2 f7 f8 f35 b_b1 l_b1
    rintro t H n ⟨f4, f5⟩
    refine Stk.on ?_
    refine Stk.rt ?_
    have hq := Option.some.inj h; subst hq
    exact (hr _ _ _ (.tup [.sc (.int .i64 v10), .sc (.int .i64 0)]) ([]) (by simp [f4, f5]) (.inr (.inr (.tup (.cons (.free (rfl)) (.cons (.free (rfl)) (.nil))))))).1
theorem ok_R13_At (F : Nat) (a0 : (List api_Term)) (a1 : (List Int)) (r : (Int × Int)) (h : R13_At F a0 a1 = some r) : RunF Try.prog T.T 35 [.ssl (encs c97 a0) a0.length false, .ssl (encs c2 a1) a1.length false] (.tup [.sc (.int .i64 r.1), .sc (.int .i64 r.2)]) := by
  rw [R13_At] at h
  refine RunF.z Try.func35 rfl rfl rfl rfl rfl (fun C hr => ?_)
  refine Stk.gen (fun t H n => t 0 = .ssl (encs c97 a0) a0.length false ∧ t 1 = .ssl (encs c2 a1) a1.length false) ⟨by simp, by simp⟩ ?_
  rintro t H n ⟨f0, f1⟩
  refine Stk.sq ?_
  refine Stk.rg ?_
  refine Stk.run 2 (fun t H n => t 0 = .ssl (encs c97 a0) a0.length false ∧ t 1 = .ssl (encs c2 a1) a1.length false) (fun J hJ => ?_) ?_
  · simp [-splice, f0, f1]
    exact hJ _ _ _ ⟨by simp [f0], by simp [f1]⟩
  clear f0 f1
  rintro t H n ⟨f0, f1⟩
  refine Stk.on ?_
  refine Stk.sq ?_
  refine Stk.rg ?_
  refine Stk.run 1 (fun t H n => t 0 = .ssl (encs c97 a0) a0.length false ∧ t 1 = .ssl (encs c2 a1) a1.length false ∧ t 6 = .sc (.int .i64 0)) (fun J hJ => ?_) ?_
  · simp [-splice, f0, f1]
    exact hJ _ _ _ ⟨by simp [f0], by simp [f1], by simp [-splice, f0, f1]⟩
  clear f0 f1
  rintro t H n ⟨f0, f1, f6⟩
  refine Stk.on ?_
  refine Stk.sq ?_
  refine Stk.sq ?_
  refine Stk.rg ?_
  refine Stk.run 1 (fun t H n => t 0 = .ssl (encs c97 a0) a0.length false ∧ t 1 = .ssl (encs c2 a1) a1.length false ∧ t 6 = .sc (.int .i64 0) ∧ t 7 = .sc (.int .i64 0)) (fun J hJ => ?_) ?_
  · simp [-splice, f0, f1, f6]
    exact hJ _ _ _ ⟨by simp [f0], by simp [f1], by simp [f6], by simp [-splice, f0, f1, f6]⟩
  clear f0 f1 f6
  rintro t H n ⟨f0, f1, f6, f7⟩
  refine Stk.on ?_
  refine Stk.bk ?_
  refine Stk.lo (fun μ t H n => ∃ v1 : Int, ∃ v2 : Int, R13_At_L0 F a0 a1 μ v1 v2 = some r ∧ t 0 = .ssl (encs c97 a0) a0.length false ∧ t 1 = .ssl (encs c2 a1) a1.length false ∧ t 6 = .sc (.int .i64 v1) ∧ t 7 = .sc (.int .i64 v2)) F ⟨0, 0, h, f0, f1, f6, f7⟩ ?_
  clear h f0 f1 f6 f7
  rintro J1 hJ1 μ t H n ⟨v1, v2, h, f0, f1, f6, f7⟩
  cases μ with
  | zero => exact absurd h (by simp [R13_At_L0])
  | succ μ =>
  rw [R13_At_L0] at h
  refine Stk.sq ?_
  refine Stk.sq ?_
  refine Stk.rg ?_
  refine Stk.run 4 (fun t H n => t 0 = .ssl (encs c97 a0) a0.length false ∧ t 1 = .ssl (encs c2 a1) a1.length false ∧ t 6 = .sc (.int .i64 v1) ∧ t 7 = .sc (.int .i64 v2) ∧ t 13 = .sc (.bool (decide (v2 < (a0.length : Int))))) (fun J hJ => ?_) ?_
  · simp [-splice, f0, f1, f6, f7]
    exact hJ _ _ _ ⟨by simp [f0], by simp [f1], by simp [f6], by simp [f7], by simp [-splice, f0, f1, f6, f7]⟩
  clear f0 f1 f6 f7
  rintro t H n ⟨f0, f1, f6, f7, f13⟩
  refine Stk.on ?_
  refine Stk.cond (decide (v2 < (a0.length : Int))) (by exact f13) (fun hb5 => ?_) (fun hb5 => ?_)
  · have h := cT hb5 h
    refine Stk.sk ?_
    refine Stk.sq ?_
    refine Stk.bk ?_
    refine Stk.sq ?_
    refine Stk.rg ?_
    obtain ⟨x6, hx6, h⟩ := bnd h
    obtain ⟨i0x6, i1x6, i2x6, _⟩ := idx_ok hx6
    have ex6_0_97 : partOf T.T 97 (encs c97 a0) (v2.toNat * 13) = some (.agg (c97 x6)) := by
        have e0 := part_elem0 (e := c97) (z := 13) (T := T.T) (ty := 97) T.t97 (by decide) (by decide) hx6 0 (by decide)
        (try simp only [Nat.mul_one, Nat.add_zero] at e0)
        exact e0.trans (ld_97_0_97 _)
    refine Stk.run 5 (fun t H n => t 0 = .ssl (encs c97 a0) a0.length false ∧ t 1 = .ssl (encs c2 a1) a1.length false ∧ t 6 = .sc (.int .i64 v1) ∧ t 7 = .sc (.int .i64 v2) ∧ t 20 = .agg (c97 x6) ∧ t 21 = .ssl (encs c2 a1) a1.length false) (fun J hJ => ?_) ?_
    · simp [-splice, f0, f1, f6, f7, f13, i0x6, i1x6, pd97, ex6_0_97]
      exact hJ _ _ _ ⟨by simp [f0], by simp [f1], by simp [f6], by simp [f7], by simp [-splice, f0, f1, f6, f7, f13, i0x6, i1x6, pd97, ex6_0_97], by simp [-splice, f0, f1, f6, f7, f13, i0x6, i1x6, pd97, ex6_0_97]⟩
    clear f0 f1 f6 f7 f13
    rintro t H n ⟨f0, f1, f6, f7, f20, f21⟩
    obtain ⟨x7, hx7, h⟩ := bnd h
    refine Stk.cv (g := 72) (args := [.agg (c97 x6), .ssl (encs c2 a1) a1.length false]) (args' := [.agg (c97 x6), .ssl (encs c2 a1) a1.length false]) (v := .tup [.sc (.int .i64 x7.1), .sc (.int .i64 x7.2)]) [] (ok_R13_term F _ _ _ hx7) (by simp [f0, f1, f6, f7, f20, f21]) rfl rfl (by simp [f0, f1, f6, f7, f20, f21]) (.cons (.free (fr97 _)) (.cons (.free (freeL_encs fr2 _)) (.nil))) (.inl ⟨rfl, by simp [free, freeL]⟩) (fun t' ht' => ?_)
    refine Stk.gen (fun t H n => t 0 = .ssl (encs c97 a0) a0.length false ∧ t 1 = .ssl (encs c2 a1) a1.length false ∧ t 6 = .sc (.int .i64 v1) ∧ t 7 = .sc (.int .i64 v2) ∧ t 22 = .tup [.sc (.int .i64 x7.1), .sc (.int .i64 x7.2)]) ⟨by simp [ht', f0], by simp [ht', f1], by simp [ht', f6], by simp [ht', f7], by simp [ht']⟩ ?_
    clear f0 f1 f6 f7 f20 f21 ht' t'
    rintro t H n ⟨f0, f1, f6, f7, f22⟩
    refine Stk.run 5 (fun t H n => t 0 = .ssl (encs c97 a0) a0.length false ∧ t 1 = .ssl (encs c2 a1) a1.length false ∧ t 6 = .sc (.int .i64 v1) ∧ t 7 = .sc (.int .i64 v2) ∧ t 8 = .sc (.int .i64 x7.1) ∧ t 9 = .sc (.int .i64 x7.2)) (fun J hJ => ?_) ?_
    · simp [-splice, f0, f1, f6, f7, f22]
      exact hJ _ _ _ ⟨by simp [f0], by simp [f1], by simp [f6], by simp [f7], by simp [-splice, f0, f1, f6, f7, f22], by simp [-splice, f0, f1, f6, f7, f22]⟩
    clear f0 f1 f6 f7 f22
    rintro t H n ⟨f0, f1, f6, f7, f8, f9⟩
    refine Stk.on ?_
    refine Stk.sq ?_
    refine Stk.sq ?_
    refine Stk.rg ?_
    refine Stk.run 3 (fun t H n => t 0 = .ssl (encs c97 a0) a0.length false ∧ t 1 = .ssl (encs c2 a1) a1.length false ∧ t 6 = .sc (.int .i64 v1) ∧ t 7 = .sc (.int .i64 v2) ∧ t 8 = .sc (.int .i64 x7.1) ∧ t 27 = .sc (.bool (x7.2 != 0))) (fun J hJ => ?_) ?_
    · simp [-splice, f0, f1, f6, f7, f8, f9]
      exact hJ _ _ _ ⟨by simp [f0], by simp [f1], by simp [f6], by simp [f7], by simp [f8], by simp [-splice, f0, f1, f6, f7, f8, f9]⟩
    clear f0 f1 f6 f7 f8 f9
    rintro t H n ⟨f0, f1, f6, f7, f8, f27⟩
    refine Stk.jo 5 (fun t H n => t 0 = .ssl (encs c97 a0) a0.length false ∧ t 1 = .ssl (encs c2 a1) a1.length false ∧ t 6 = .sc (.int .i64 v1) ∧ t 7 = .sc (.int .i64 v2) ∧ t 8 = .sc (.int .i64 x7.1) ∧ t 32 = .sc (.bool ((x7.2 != 0) || (decide ((IntKind.i64.wrap (1099511627776 - v1)) < x7.1))))) (fun J2 hJ2 => ?_) ?_
    · rcases Bool.eq_false_or_eq_true (x7.2 != 0) with hb2 | hb2
      · rw [hb2] at f27
        refine Stk.run 5 (fun t H n => t 0 = .ssl (encs c97 a0) a0.length false ∧ t 1 = .ssl (encs c2 a1) a1.length false ∧ t 6 = .sc (.int .i64 v1) ∧ t 7 = .sc (.int .i64 v2) ∧ t 8 = .sc (.int .i64 x7.1) ∧ t 32 = .sc (.bool true)) (fun J hJ => ?_) ?_
        · simp [-splice, f0, f1, f6, f7, f8, f27]
          exact hJ _ _ _ ⟨by simp [f0], by simp [f1], by simp [f6], by simp [f7], by simp [f8], by simp [-splice, f0, f1, f6, f7, f8, f27]⟩
        clear f0 f1 f6 f7 f8 f27
        rintro t H n ⟨f0, f1, f6, f7, f8, f32⟩
        refine Stk.on ?_
        exact Stk.ln 0 (by decide) (hJ2 _ _ _ ⟨f0, f1, f6, f7, f8, f32.trans (congrArg (fun q => AV.sc (.bool q)) (by rw [hb2]; rfl))⟩)
      · rw [hb2] at f27
        refine Stk.run 5 (fun t H n => t 0 = .ssl (encs c97 a0) a0.length false ∧ t 1 = .ssl (encs c2 a1) a1.length false ∧ t 6 = .sc (.int .i64 v1) ∧ t 7 = .sc (.int .i64 v2) ∧ t 8 = .sc (.int .i64 x7.1) ∧ t 32 = .sc (.bool (decide ((IntKind.i64.wrap (1099511627776 - v1)) < x7.1)))) (fun J hJ => ?_) ?_
        · simp [-splice, f0, f1, f6, f7, f8, f27]
          exact hJ _ _ _ ⟨by simp [f0], by simp [f1], by simp [f6], by simp [f7], by simp [f8], by simp [-splice, f0, f1, f6, f7, f8, f27]⟩
        clear f0 f1 f6 f7 f8 f27
        rintro t H n ⟨f0, f1, f6, f7, f8, f32⟩
        refine Stk.on ?_
        exact Stk.ln 0 (by decide) (hJ2 _ _ _ ⟨f0, f1, f6, f7, f8, f32.trans (congrArg (fun q => AV.sc (.bool q)) (by rw [hb2]; rfl))⟩)
    clear f0 f1 f6 f7 f8 f27
    rintro t H n ⟨f0, f1, f6, f7, f8, f32⟩
    refine Stk.on ?_
    refine Stk.cond ((x7.2 != 0) || (decide ((IntKind.i64.wrap (1099511627776 - v1)) < x7.1))) (by exact f32) (fun hb8 => ?_) (fun hb8 => ?_)
    · have h := cT hb8 h
      refine Stk.sq ?_
      refine Stk.rg ?_
      refine Stk.run 2 (fun t H n => t 4 = .sc (.int .i64 0) ∧ t 5 = .sc (.int .i64 17)) (fun J hJ => ?_) ?_
      · simp [-splice, f0, f1, f6, f7, f8, f32]
        exact hJ _ _ _ ⟨by simp [-splice, f0, f1, f6, f7, f8, f32], by simp [-splice, f0, f1, f6, f7, f8, f32]⟩
      clear f0 f1 f6 f7 f8 f32
      rintro t H n ⟨f4, f5⟩
      refine Stk.on ?_
      refine Stk.rt ?_
      have hq := Option.some.inj h; subst hq
      exact (hr _ _ _ (.tup [.sc (.int .i64 0), .sc (.int .i64 17)]) ([]) (by simp [f4, f5]) (.inr (.inr (.tup (.cons (.free (rfl)) (.cons (.free (rfl)) (.nil))))))).1
    · have h := cF hb8 h
      refine Stk.sk ?_
      refine Stk.rg ?_
      refine Stk.run 4 (fun t H n => t 0 = .ssl (encs c97 a0) a0.length false ∧ t 1 = .ssl (encs c2 a1) a1.length false ∧ t 6 = .sc (.int .i64 (IntKind.i64.wrap (v1 + x7.1))) ∧ t 7 = .sc (.int .i64 v2)) (fun J hJ => ?_) ?_
      · simp [-splice, f0, f1, f6, f7, f8, f32]
        exact hJ _ _ _ ⟨by simp [f0], by simp [f1], by simp [-splice, f0, f1, f6, f7, f8, f32], by simp [f7]⟩
      clear f0 f1 f6 f7 f8 f32
      rintro t H n ⟨f0, f1, f6, f7⟩
      refine Stk.on ?_
      refine Stk.bn ?_
      refine Stk.rg ?_
      refine Stk.run 3 (fun t H n => t 0 = .ssl (encs c97 a0) a0.length false ∧ t 1 = .ssl (encs c2 a1) a1.length false ∧ t 6 = .sc (.int .i64 (IntKind.i64.wrap (v1 + x7.1))) ∧ t 7 = .sc (.int .i64 (IntKind.i64.wrap (v2 + 1)))) (fun J hJ => ?_) ?_
      · simp [-splice, f0, f1, f6, f7]
        exact hJ _ _ _ ⟨by simp [f0], by simp [f1], by simp [f6], by simp [-splice, f0, f1, f6, f7]⟩
      clear f0 f1 f6 f7
      rintro t H n ⟨f0, f1, f6, f7⟩
      refine Stk.on ?_
      exact Stk.ln μ (Nat.lt_succ_self _) (hJ1 _ _ _ _ ⟨(IntKind.i64.wrap (v1 + x7.1)), (IntKind.i64.wrap (v2 + 1)), h, f0, f1, f6, f7⟩)
  · have h := cF hb5 h
    refine Stk.ex rfl ?_
    refine Stk.sq ?_
    refine Stk.rg ?_
    refine Stk.run 3 (fun t H n => t 4 = .sc (.int .i64 v1) ∧ t 5 = .sc (.int .i64 0)) (fun J hJ => ?_) ?_
    · simp [-splice, f0, f1, f6, f7, f13]
      exact hJ _ _ _ ⟨by simp [-splice, f0, f1, f6, f7, f13], by simp [-splice, f0, f1, f6, f7, f13]⟩
    clear f0 f1 f6 f7 f13
    rintro t H n ⟨f4, f5⟩
    refine Stk.on ?_
    refine Stk.rt ?_
    have hq := Option.some.inj h; subst hq
    exact (hr _ _ _ (.tup [.sc (.int .i64 v1), .sc (.int .i64 0)]) ([]) (by simp [f4, f5]) (.inr (.inr (.tup (.cons (.free (rfl)) (.cons (.free (rfl)) (.nil))))))).1
theorem ok_slices_Clone_api_Poly_api_Term (F : Nat) (a0 : (List api_Term)) (r : (List api_Term)) (h : slices_Clone_api_Poly_api_Term F a0 = some r) : RunF Try.prog T.T 73 [.ssl (encs c97 a0) a0.length false] (.ssl (encs c97 r) r.length false) := by
  rw [slices_Clone_api_Poly_api_Term] at h
  obtain ⟨r1, r2, r3⟩ := appM_ok h
  simp only [List.nil_append] at r3
  subst r3
  cases a0 with
  | nil =>
    refine RunF.nilArg [] [] (fun a ha => ?_)
    rcases ha with rfl | rfl
    · refine RunF.z Try.func73 rfl rfl rfl rfl rfl (fun C hr => ?_)
      refine evZ_sound (f := 19) ?_
      simp [Op.maxDepth]
      refine Stk.cond true ?_ (fun _ => ?_) (fun hb => by cases hb)
      · simp
      refine evZ_sound (f := 19) ?_
      simp
      exact (hr _ _ _ (.sc (.slice none 0 0)) [] (by simp) (.inr (.inr .nilS))).1
    · refine RunF.z Try.func73 rfl rfl rfl rfl rfl (fun C hr => ?_)
      refine evZ_sound (f := 19) ?_
      simp [Op.maxDepth]
      refine Stk.cond false ?_ (fun hb => by cases hb) (fun _ => ?_)
      · simp
      refine evZ_sound (f := 19) ?_
      simp [appendAV, fillAV, roomMax]
      exact (hr _ _ _ (.osl 0 0 0 (some 0)) [0] (by simp) (.inr (.inr (.oslF (cs := []) (ty := 97) 0 (by simp) (by simp) .nil)))).1
  | cons x xs =>
    refine RunF.z Try.func73 rfl rfl rfl rfl rfl (fun C hr => ?_)
    refine evZ_sound (f := 19) ?_
    simp [Op.maxDepth]
    refine Stk.cond false ?_ (fun hb => by cases hb) (fun _ => ?_)
    · simp
    obtain ⟨o', c', H9, n9, e9, w9, le9, fr9, kp9⟩ := append_ownC (e := c97) (z := 13) (st := 37) T.t37 rfl T.t97 rfl (by decide) rfl (by decide) (H := upd (fun _ => none) 0 (some (.cells (encs c97 ([] : (List api_Term))) 97))) (n := 1) (ownC_row (xs := ([] : (List api_Term))) (b := 0) (upd_same _ _ _)) (fun i hi => by cases hi; omega) (y := .ssl (encs c97 (x :: xs)) (x :: xs).length false) (x :: xs) elems_ssl (all_encs ok97 _) r1 r2
    simp only [List.nil_append] at e9 w9
    refine Stk.sk ?_
    refine Stk.sq ?_
    refine Stk.rg ?_
    refine Stk.om (mop_buildN (c := c97) (z := 13) T.t37 rfl T.t97 rfl (by decide) rfl (by decide) [] rfl .nil) rfl rfl (fun t' ht' => ?_)
    refine Stk.run 1 (fun t H n => t 5 = .osl 0 0 0 (some 0) ∧ t 6 = .ssl (encs c97 (x :: xs)) (x :: xs).length false ∧ H = upd (fun _ => none) 0 (some (.cells (encs c97 ([] : (List api_Term))) 97)) ∧ n = 1) (fun J hJ => ?_) ?_
    · simp [ht']
      exact hJ _ _ _ ⟨by simp [ht'], by simp [ht'], rfl, rfl⟩
    clear ht' t'
    rintro t H n ⟨f5, f6, rfl, rfl⟩
    refine Stk.om ((mop_append T.t37 rfl).trans (by rw [show ev t (.tmp 5) = t 5 from rfl, f5]; rw [show ev t (.tmp 6) = t 6 from rfl, f6]; exact e9)) rfl rfl (fun t' ht' => ?_)
    refine Stk.run 1 (fun t H n => t 2 = slc o' (x :: xs).length c' ∧ OwnC H 97 13 c97 o' c' (x :: xs)) (fun J hJ => ?_) ?_
    · simp [ht']
      exact hJ _ _ _ ⟨by simp [ht'], w9⟩
    rintro t H n ⟨f2, b2⟩
    refine Stk.on ?_
    refine Stk.rt ?_
    exact (hr _ _ _ (slc o' (x :: xs).length c') o'.toList (by simp [f2]) (.inr (.inr (view_ownC fr97 b2 (fun i hi => by simp [hi]))))).1
theorem ok_poly_Split (F : Nat) (a0 : (List api_Term)) (a1 : Int) (r : (Int × (List api_Term) × Bool)) (h : poly_Split F a0 a1 = some r) : RunF Try.prog T.T 36 [.ssl (encs c97 a0) a0.length false, .sc (.int .i64 a1)] (.tup [.sc (.int .i64 r.1), .ssl (encs c97 r.2.1) r.2.1.length false, .sc (.bool r.2.2)]) := by
  rw [poly_Split] at h
  refine RunF.z Try.func36 rfl rfl rfl rfl rfl (fun C hr => ?_)
  refine Stk.gen (fun t H n => t 0 = .ssl (encs c97 a0) a0.length false ∧ t 1 = .sc (.int .i64 a1)) ⟨by simp, by simp⟩ ?_
  rintro t H n ⟨f0, f1⟩
  refine Stk.sq ?_
  refine Stk.rg ?_
  refine Stk.run 2 (fun t H n => t 0 = .ssl (encs c97 a0) a0.length false ∧ t 1 = .sc (.int .i64 a1) ∧ t 4 = .sc (.int .i64 0) ∧ t 5 = .sc (.slice none 0 0)) (fun J hJ => ?_) ?_
  · simp [-splice, f0, f1]
    exact hJ _ _ _ ⟨by simp [f0], by simp [f1], by simp [-splice, f0, f1], by simp [-splice, f0, f1]⟩
  clear f0 f1
  rintro t H n ⟨f0, f1, f4, f5⟩
  obtain ⟨o1, ho1⟩ : ∃ o : Option Nat, o = none := ⟨none, rfl⟩
  obtain ⟨co1, hco1⟩ : ∃ c : Option Nat, c = none := ⟨none, rfl⟩
  replace f5 : t 5 = slc o1 ([] : List api_Term).length co1 := by rw [ho1]; exact f5
  have b_o1 : OwnC H 97 13 c97 o1 co1 ([] : List api_Term) := by rw [ho1]; exact rfl
  have l_o1 : ∀ i, o1 = some i → i < n := by rw [ho1]; intro i e; cases e
  refine Stk.run 1 (fun t H n => t 0 = .ssl (encs c97 a0) a0.length false ∧ t 1 = .sc (.int .i64 a1) ∧ t 4 = .sc (.int .i64 0) ∧ t 5 = slc o1 ([] : List api_Term).length co1 ∧ OwnC H 97 13 c97 o1 co1 ([] : List api_Term) ∧ (∀ i, o1 = some i → i < n)) (fun J hJ => ?_) ?_
  · simp [-splice, f0, f1, f4, f5]
    exact hJ _ _ _ ⟨by simp [f0], by simp [f1], by simp [f4], by simp [f5], b_o1, l_o1⟩
  clear f0 f1 f4 f5 b_o1 l_o1
  rintro t H n ⟨f0, f1, f4, f5, b_o1, l_o1⟩
  refine Stk.on ?_
  refine Stk.sq ?_
  refine Stk.sq ?_
  refine Stk.rg ?_
  refine Stk.run 3 (fun t H n => t 0 = .ssl (encs c97 a0) a0.length false ∧ t 1 = .sc (.int .i64 a1) ∧ t 4 = .sc (.int .i64 0) ∧ t 5 = slc o1 ([] : List api_Term).length co1 ∧ t 12 = .sc (.bool (decide (a1 < 0))) ∧ OwnC H 97 13 c97 o1 co1 ([] : List api_Term) ∧ (∀ i, o1 = some i → i < n)) (fun J hJ => ?_) ?_
  · simp [-splice, f0, f1, f4, f5]
    exact hJ _ _ _ ⟨by simp [f0], by simp [f1], by simp [f4], by simp [f5], by simp [-splice, f0, f1, f4, f5], b_o1, l_o1⟩
  clear f0 f1 f4 f5 b_o1 l_o1
  rintro t H n ⟨f0, f1, f4, f5, f12, b_o1, l_o1⟩
  refine Stk.jo 3 (fun t H n => t 0 = .ssl (encs c97 a0) a0.length false ∧ t 1 = .sc (.int .i64 a1) ∧ t 4 = .sc (.int .i64 0) ∧ t 5 = slc o1 ([] : List api_Term).length co1 ∧ t 15 = .sc (.bool ((decide (a1 < 0)) || (decide (12 ≤ a1)))) ∧ OwnC H 97 13 c97 o1 co1 ([] : List api_Term) ∧ (∀ i, o1 = some i → i < n)) (fun J1 hJ1 => ?_) ?_
  · rcases Bool.eq_false_or_eq_true (decide (a1 < 0)) with hb1 | hb1
    · rw [hb1] at f12
      refine Stk.run 3 (fun t H n => t 0 = .ssl (encs c97 a0) a0.length false ∧ t 1 = .sc (.int .i64 a1) ∧ t 4 = .sc (.int .i64 0) ∧ t 5 = slc o1 ([] : List api_Term).length co1 ∧ t 15 = .sc (.bool true) ∧ OwnC H 97 13 c97 o1 co1 ([] : List api_Term) ∧ (∀ i, o1 = some i → i < n)) (fun J hJ => ?_) ?_
      · simp [-splice, f0, f1, f4, f5, f12]
        exact hJ _ _ _ ⟨by simp [f0], by simp [f1], by simp [f4], by simp [f5], by simp [-splice, f0, f1, f4, f5, f12], b_o1, l_o1⟩
      clear f0 f1 f4 f5 f12 b_o1 l_o1
      rintro t H n ⟨f0, f1, f4, f5, f15, b_o1, l_o1⟩
      refine Stk.on ?_
      exact Stk.ln 0 (by decide) (hJ1 _ _ _ ⟨f0, f1, f4, f5, f15.trans (congrArg (fun q => AV.sc (.bool q)) (by rw [hb1]; rfl)), b_o1, l_o1⟩)
    · rw [hb1] at f12
      refine Stk.run 3 (fun t H n => t 0 = .ssl (encs c97 a0) a0.length false ∧ t 1 = .sc (.int .i64 a1) ∧ t 4 = .sc (.int .i64 0) ∧ t 5 = slc o1 ([] : List api_Term).length co1 ∧ t 15 = .sc (.bool (decide (12 ≤ a1))) ∧ OwnC H 97 13 c97 o1 co1 ([] : List api_Term) ∧ (∀ i, o1 = some i → i < n)) (fun J hJ => ?_) ?_
      · simp [-splice, f0, f1, f4, f5, f12]
        exact hJ _ _ _ ⟨by simp [f0], by simp [f1], by simp [f4], by simp [f5], by simp [-splice, f0, f1, f4, f5, f12], b_o1, l_o1⟩
      clear f0 f1 f4 f5 f12 b_o1 l_o1
      rintro t H n ⟨f0, f1, f4, f5, f15, b_o1, l_o1⟩
      refine Stk.on ?_
      exact Stk.ln 0 (by decide) (hJ1 _ _ _ ⟨f0, f1, f4, f5, f15.trans (congrArg (fun q => AV.sc (.bool q)) (by rw [hb1]; rfl)), b_o1, l_o1⟩)
  clear f0 f1 f4 f5 f12 b_o1 l_o1
  rintro t H n ⟨f0, f1, f4, f5, f15, b_o1, l_o1⟩
  refine Stk.on ?_
  refine Stk.cond ((decide (a1 < 0)) || (decide (12 ≤ a1))) (by exact f15) (fun hb2 => ?_) (fun hb2 => ?_)
  · have h := cT hb2 h
    refine Stk.sq ?_
    refine Stk.rg ?_
    refine Stk.run 1 (fun t H n => t 16 = .ssl (encs c97 a0) a0.length false) (fun J hJ => ?_) ?_
    · simp [-splice, f0, f1, f4, f5, f15]
      exact hJ _ _ _ (by simp [-splice, f0, f1, f4, f5, f15])
    clear f0 f1 f4 f5 f15 b_o1 l_o1
    rintro t H n f16
    obtain ⟨x3, hx3, h⟩ := bnd h
    refine Stk.cv (g := 73) (args := [.ssl (encs c97 a0) a0.length false]) (args' := [.ssl (encs c97 a0) a0.length false]) (v := .ssl (encs c97 x3) x3.length false) [] (ok_slices_Clone_api_Poly_api_Term F _ _ hx3) (by simp [f16]) rfl rfl (by simp [f16]) (.cons (.free (freeL_encs fr97 _)) (.nil)) (.inl ⟨rfl, freeL_encs fr97 _⟩) (fun t' ht' => ?_)
    refine Stk.gen (fun t H n => t 17 = .ssl (encs c97 x3) x3.length false) (by simp [ht']) ?_
    clear f16 ht' t'
    rintro t H n f17
    refine Stk.run 3 (fun t H n => t 4 = .sc (.int .i64 0) ∧ t 5 = .ssl (encs c97 x3) x3.length false ∧ t 6 = .sc (.bool true)) (fun J hJ => ?_) ?_
    · simp [-splice, f17]
      exact hJ _ _ _ ⟨by simp [-splice, f17], by simp [-splice, f17], by simp [-splice, f17]⟩
    clear f17
    rintro t H n ⟨f4, f5, f6⟩
    refine Stk.on ?_
    refine Stk.rt ?_
    have hq := Option.some.inj h; subst hq
    exact (hr _ _ _ (.tup [.sc (.int .i64 0), .ssl (encs c97 x3) x3.length false, .sc (.bool true)]) ([]) (by simp [f4, f5, f6]) (.inr (.inr (.tup (.cons (.free (rfl)) (.cons (.free (freeL_encs fr97 _)) (.cons (.free (rfl)) (.nil)))))))).1
  · have h := cF hb2 h
    refine Stk.sk ?_
    refine Stk.sq ?_
    refine Stk.rg ?_
    refine Stk.run 1 (fun t H n => t 0 = .ssl (encs c97 a0) a0.length false ∧ t 1 = .sc (.int .i64 a1) ∧ t 4 = .sc (.int .i64 0) ∧ t 5 = slc o1 ([] : List api_Term).length co1 ∧ t 18 = .sc (.int .i64 a1) ∧ OwnC H 97 13 c97 o1 co1 ([] : List api_Term) ∧ (∀ i, o1 = some i → i < n)) (fun J hJ => ?_) ?_
    · simp [-splice, f0, f1, f4, f5, f15]
      exact hJ _ _ _ ⟨by simp [f0], by simp [f1], by simp [f4], by simp [f5], by simp [-splice, f0, f1, f4, f5, f15], b_o1, l_o1⟩
    clear f0 f1 f4 f5 f15 b_o1 l_o1
    rintro t H n ⟨f0, f1, f4, f5, f18, b_o1, l_o1⟩
    obtain ⟨x4, hx4, h⟩ := bnd h
    refine Stk.cv (g := 69) (args := [.sc (.int .i64 a1)]) (args' := [.sc (.int .i64 a1)]) (v := .agg (c97 x4)) [] (ok_poly_unknown F _ _ hx4) (by simp [f0, f1, f4, f5, f18]) rfl rfl (by simp [f0, f1, f4, f5, f18]) (.cons (.free (rfl)) (.nil)) (.inl ⟨rfl, fr97 _⟩) (fun t' ht' => ?_)
    refine Stk.gen (fun t H n => t 0 = .ssl (encs c97 a0) a0.length false ∧ t 1 = .sc (.int .i64 a1) ∧ t 4 = .sc (.int .i64 0) ∧ t 5 = slc o1 ([] : List api_Term).length co1 ∧ t 19 = .agg (c97 x4) ∧ OwnC H 97 13 c97 o1 co1 ([] : List api_Term) ∧ (∀ i, o1 = some i → i < n)) ⟨by simp [ht', f0], by simp [ht', f1], by simp [ht', f4], by simp [ht', f5], by simp [ht'], b_o1, l_o1⟩ ?_
    clear f0 f1 f4 f5 f18 b_o1 l_o1 ht' t'
    rintro t H n ⟨f0, f1, f4, f5, f19, b_o1, l_o1⟩
    refine Stk.run 1 (fun t H n => t 0 = .ssl (encs c97 a0) a0.length false ∧ t 1 = .sc (.int .i64 a1) ∧ t 4 = .sc (.int .i64 0) ∧ t 5 = slc o1 ([] : List api_Term).length co1 ∧ t 20 = .agg (c95 x4.Exps) ∧ OwnC H 97 13 c97 o1 co1 ([] : List api_Term) ∧ (∀ i, o1 = some i → i < n)) (fun J hJ => ?_) ?_
    · simp [-splice, f0, f1, f4, f5, f19, ld_97_0_95]
      exact hJ _ _ _ ⟨by simp [f0], by simp [f1], by simp [f4], by simp [f5], by simp [-splice, f0, f1, f4, f5, f19, ld_97_0_95], b_o1, l_o1⟩
    clear f0 f1 f4 f5 f19 b_o1 l_o1
    rintro t H n ⟨f0, f1, f4, f5, f20, b_o1, l_o1⟩
    refine Stk.om (mop_alloc T.t95 (cs := c95 (Arr.rep 12 0)) rfl) (by simp [f0, f1, f4, f5, f20]) rfl (fun t' ht' => ?_)
    refine Stk.gen (fun t H n => ∃ b5, t 0 = .ssl (encs c97 a0) a0.length false ∧ t 1 = .sc (.int .i64 a1) ∧ t 4 = .sc (.int .i64 0) ∧ t 5 = slc o1 ([] : List api_Term).length co1 ∧ t 7 = .own b5 0 ∧ t 20 = .agg (c95 x4.Exps) ∧ H b5 = some (.cells (c95 (Arr.rep 12 0)) 95) ∧ b5 < n ∧ OwnC H 97 13 c97 o1 co1 ([] : List api_Term) ∧ (∀ i, o1 = some i → i < n) ∧ (∀ i, o1 = some i → i ≠ b5)) ⟨n, by simp [ht', f0], by simp [ht', f1], by simp [ht', f4], by simp [ht', f5], by simp [ht'], by simp [ht', f20], upd_same _ _ _, Nat.lt_succ_self _, b_o1.mono (fun i hi => upd_ne _ _ (Nat.ne_of_lt (l_o1 i hi))), fun i hi => Nat.lt_succ_of_lt (l_o1 i hi), fun i hi => Nat.ne_of_lt (l_o1 i hi)⟩ ?_
    clear f0 f1 f4 f5 f20 b_o1 l_o1 ht' t'
    rintro t H n ⟨b5, f0, f1, f4, f5, f7, f20, b_b5, l_b5, b_o1, l_o1, d_b5_o1⟩
    refine Stk.om (mop_store (z := 12) rfl f7 b_b5 f20 (len95 _) (by rw [len95]; decide) (ok95 _) (st_95_0_95 _ _)) (by simp [f0, f1, f4, f5, f7, f20]) rfl (fun t' ht' => ?_)
    refine Stk.gen (fun t H n => t 0 = .ssl (encs c97 a0) a0.length false ∧ t 1 = .sc (.int .i64 a1) ∧ t 4 = .sc (.int .i64 0) ∧ t 5 = slc o1 ([] : List api_Term).length co1 ∧ t 7 = .own b5 0 ∧ H b5 = some (.cells (c95 x4.Exps) 95) ∧ b5 < n ∧ OwnC H 97 13 c97 o1 co1 ([] : List api_Term) ∧ (∀ i, o1 = some i → i < n) ∧ (∀ i, o1 = some i → i ≠ b5)) ⟨by simp [ht', f0], by simp [ht', f1], by simp [ht', f4], by simp [ht', f5], by simp [ht', f7], upd_same _ _ _, l_b5, b_o1.mono (fun i hi => upd_ne _ _ (d_b5_o1 i hi)), l_o1, d_b5_o1⟩ ?_
    clear f0 f1 f4 f5 f7 f20 b_b5 l_b5 b_o1 l_o1 d_b5_o1 ht' t'
    rintro t H n ⟨f0, f1, f4, f5, f7, b_b5, l_b5, b_o1, l_o1, d_b5_o1⟩
    refine Stk.on ?_
    refine Stk.sq ?_
    refine Stk.sq ?_
    refine Stk.rg ?_
    refine Stk.run 3 (fun t H n => t 1 = .sc (.int .i64 a1) ∧ t 4 = .sc (.int .i64 0) ∧ t 5 = slc o1 ([] : List api_Term).length co1 ∧ t 7 = .own b5 0 ∧ t 21 = .ssl (encs c97 a0) a0.length false ∧ t 22 = .sc (.int .i64 (a0.length : Int)) ∧ t 23 = .sc (.int .i64 0) ∧ H b5 = some (.cells (c95 x4.Exps) 95) ∧ b5 < n ∧ OwnC H 97 13 c97 o1 co1 ([] : List api_Term) ∧ (∀ i, o1 = some i → i < n) ∧ (∀ i, o1 = some i → i ≠ b5)) (fun J hJ => ?_) ?_
    · simp [-splice, f0, f1, f4, f5, f7, b_b5]
      exact hJ _ _ _ ⟨by simp [f1], by simp [f4], by simp [f5], by simp [f7], by simp [-splice, f0, f1, f4, f5, f7, b_b5], by simp [-splice, f0, f1, f4, f5, f7, b_b5], by simp [-splice, f0, f1, f4, f5, f7, b_b5], b_b5, l_b5, b_o1, l_o1, d_b5_o1⟩
    clear f0 f1 f4 f5 f7 b_b5 l_b5 b_o1 l_o1 d_b5_o1
    rintro t H n ⟨f1, f4, f5, f7, f21, f22, f23, b_b5, l_b5, b_o1, l_o1, d_b5_o1⟩
    refine Stk.on ?_
    obtain ⟨K2, hK2, h⟩ := jnd h
    refine Stk.jn (fun t H n => ∃ v6 : Int, ∃ o7 : Option Nat, ∃ co7 : Option Nat, ∃ v8 : List api_Term, K2 v6 v8 = some r ∧ t 4 = .sc (.int .i64 v6) ∧ t 5 = slc o7 v8.length co7 ∧ OwnC H 97 13 c97 o7 co7 v8 ∧ (∀ i, o7 = some i → i < n)) trivial (fun J2 hJ2 => ?_) ?_
    · skip
      refine Stk.bk ?_
      refine Stk.lo (fun μ t H n => ∃ v9 : Int, ∃ o10 : Option Nat, ∃ co10 : Option Nat, ∃ v11 : List api_Term, ∃ v12 : Int, poly_Split_L0 F a0 a1 x4 K2 μ v9 v11 v12 = some r ∧ t 1 = .sc (.int .i64 a1) ∧ t 4 = .sc (.int .i64 v9) ∧ t 5 = slc o10 v11.length co10 ∧ t 7 = .own b5 0 ∧ t 21 = .ssl (encs c97 a0) a0.length false ∧ t 22 = .sc (.int .i64 (a0.length : Int)) ∧ t 23 = .sc (.int .i64 v12) ∧ H b5 = some (.cells (c95 x4.Exps) 95) ∧ b5 < n ∧ OwnC H 97 13 c97 o10 co10 v11 ∧ (∀ i, o10 = some i → i < n) ∧ (∀ i, o10 = some i → i ≠ b5)) F ⟨0, o1, co1, ([] : List api_Term), 0, h, f1, f4, f5, f7, f21, f22, f23, b_b5, l_b5, b_o1, l_o1, d_b5_o1⟩ ?_
      clear h f1 f4 f5 f7 f21 f22 f23 b_b5 l_b5 b_o1 l_o1 d_b5_o1
      rintro J3 hJ3 μ t H n ⟨v9, o10, co10, v11, v12, h, f1, f4, f5, f7, f21, f22, f23, b_b5, l_b5, b_o10, l_o10, d_b5_o10⟩
      cases μ with
      | zero => exact absurd h (by simp [poly_Split_L0])
      | succ μ =>
      rw [poly_Split_L0] at h
      refine Stk.sq ?_
      refine Stk.rg ?_
      refine Stk.run 1 (fun t H n => t 1 = .sc (.int .i64 a1) ∧ t 4 = .sc (.int .i64 v9) ∧ t 5 = slc o10 v11.length co10 ∧ t 7 = .own b5 0 ∧ t 21 = .ssl (encs c97 a0) a0.length false ∧ t 22 = .sc (.int .i64 (a0.length : Int)) ∧ t 23 = .sc (.int .i64 v12) ∧ t 24 = .sc (.bool (decide (v12 < (a0.length : Int)))) ∧ H b5 = some (.cells (c95 x4.Exps) 95) ∧ b5 < n ∧ OwnC H 97 13 c97 o10 co10 v11 ∧ (∀ i, o10 = some i → i < n) ∧ (∀ i, o10 = some i → i ≠ b5)) (fun J hJ => ?_) ?_
      · simp [-splice, f1, f4, f5, f7, f21, f22, f23, b_b5]
        exact hJ _ _ _ ⟨by simp [f1], by simp [f4], by simp [f5], by simp [f7], by simp [f21], by simp [f22], by simp [f23], by simp [-splice, f1, f4, f5, f7, f21, f22, f23, b_b5], b_b5, l_b5, b_o10, l_o10, d_b5_o10⟩
      clear f1 f4 f5 f7 f21 f22 f23 b_b5 l_b5 b_o10 l_o10 d_b5_o10
      rintro t H n ⟨f1, f4, f5, f7, f21, f22, f23, f24, b_b5, l_b5, b_o10, l_o10, d_b5_o10⟩
      refine Stk.on ?_
      refine Stk.sq ?_
      refine Stk.cond (decide (v12 < (a0.length : Int))) (by exact f24) (fun hb17 => ?_) (fun hb17 => ?_)
      · have h := cT hb17 h
        refine Stk.sk ?_
        refine Stk.sq ?_
        refine Stk.bk ?_
        refine Stk.sq ?_
        refine Stk.rg ?_
        obtain ⟨x18, hx18, h⟩ := bnd h
        obtain ⟨i0x18, i1x18, i2x18, _⟩ := idx_ok hx18
        have ex18_0_97 : partOf T.T 97 (encs c97 a0) (v12.toNat * 13) = some (.agg (c97 x18)) := by
            have e0 := part_elem0 (e := c97) (z := 13) (T := T.T) (ty := 97) T.t97 (by decide) (by decide) hx18 0 (by decide)
            (try simp only [Nat.mul_one, Nat.add_zero] at e0)
            exact e0.trans (ld_97_0_97 _)
        refine Stk.run 2 (fun t H n => t 1 = .sc (.int .i64 a1) ∧ t 4 = .sc (.int .i64 v9) ∧ t 5 = slc o10 v11.length co10 ∧ t 7 = .own b5 0 ∧ t 21 = .ssl (encs c97 a0) a0.length false ∧ t 22 = .sc (.int .i64 (a0.length : Int)) ∧ t 23 = .sc (.int .i64 v12) ∧ t 26 = .agg (c97 x18) ∧ H b5 = some (.cells (c95 x4.Exps) 95) ∧ b5 < n ∧ OwnC H 97 13 c97 o10 co10 v11 ∧ (∀ i, o10 = some i → i < n) ∧ (∀ i, o10 = some i → i ≠ b5)) (fun J hJ => ?_) ?_
        · simp [-splice, f1, f4, f5, f7, f21, f22, f23, f24, b_b5, i0x18, i1x18, pd97, ex18_0_97]
          exact hJ _ _ _ ⟨by simp [f1], by simp [f4], by simp [f5], by simp [f7], by simp [f21], by simp [f22], by simp [f23], by simp [-splice, f1, f4, f5, f7, f21, f22, f23, f24, b_b5, i0x18, i1x18, pd97, ex18_0_97], b_b5, l_b5, b_o10, l_o10, d_b5_o10⟩
        clear f1 f4 f5 f7 f21 f22 f23 f24 b_b5 l_b5 b_o10 l_o10 d_b5_o10
        rintro t H n ⟨f1, f4, f5, f7, f21, f22, f23, f26, b_b5, l_b5, b_o10, l_o10, d_b5_o10⟩
        refine Stk.om (mop_alloc T.t97 (cs := c97 (api_Term.mk (Arr.rep 12 0) 0)) rfl) (by simp [f1, f4, f5, f7, f21, f22, f23, f26]) rfl (fun t' ht' => ?_)
        refine Stk.gen (fun t H n => ∃ b19, t 1 = .sc (.int .i64 a1) ∧ t 4 = .sc (.int .i64 v9) ∧ t 5 = slc o10 v11.length co10 ∧ t 7 = .own b5 0 ∧ t 9 = .own b19 0 ∧ t 21 = .ssl (encs c97 a0) a0.length false ∧ t 22 = .sc (.int .i64 (a0.length : Int)) ∧ t 23 = .sc (.int .i64 v12) ∧ t 26 = .agg (c97 x18) ∧ H b5 = some (.cells (c95 x4.Exps) 95) ∧ b5 < n ∧ H b19 = some (.cells (c97 (api_Term.mk (Arr.rep 12 0) 0)) 97) ∧ b19 < n ∧ OwnC H 97 13 c97 o10 co10 v11 ∧ (∀ i, o10 = some i → i < n) ∧ b5 ≠ b19 ∧ (∀ i, o10 = some i → i ≠ b5) ∧ (∀ i, o10 = some i → i ≠ b19)) ⟨n, by simp [ht', f1], by simp [ht', f4], by simp [ht', f5], by simp [ht', f7], by simp [ht'], by simp [ht', f21], by simp [ht', f22], by simp [ht', f23], by simp [ht', f26], (upd_ne _ _ (Nat.ne_of_lt l_b5)).trans b_b5, Nat.lt_succ_of_lt l_b5, upd_same _ _ _, Nat.lt_succ_self _, b_o10.mono (fun i hi => upd_ne _ _ (Nat.ne_of_lt (l_o10 i hi))), fun i hi => Nat.lt_succ_of_lt (l_o10 i hi), Nat.ne_of_lt l_b5, d_b5_o10, fun i hi => Nat.ne_of_lt (l_o10 i hi)⟩ ?_
        clear f1 f4 f5 f7 f21 f22 f23 f26 b_b5 l_b5 b_o10 l_o10 d_b5_o10 ht' t'
        rintro t H n ⟨b19, f1, f4, f5, f7, f9, f21, f22, f23, f26, b_b5, l_b5, b_b19, l_b19, b_o10, l_o10, d_b5_b19, d_b5_o10, d_b19_o10⟩
        refine Stk.om (mop_store (z := 13) rfl f9 b_b19 f26 (len97 _) (by rw [len97]; decide) (ok97 _) (st_97_0_97 _ _)) (by simp [f1, f4, f5, f7, f9, f21, f22, f23, f26]) rfl (fun t' ht' => ?_)
        refine Stk.gen (fun t H n => t 1 = .sc (.int .i64 a1) ∧ t 4 = .sc (.int .i64 v9) ∧ t 5 = slc o10 v11.length co10 ∧ t 7 = .own b5 0 ∧ t 9 = .own b19 0 ∧ t 21 = .ssl (encs c97 a0) a0.length false ∧ t 22 = .sc (.int .i64 (a0.length : Int)) ∧ t 23 = .sc (.int .i64 v12) ∧ H b5 = some (.cells (c95 x4.Exps) 95) ∧ b5 < n ∧ H b19 = some (.cells (c97 x18) 97) ∧ b19 < n ∧ OwnC H 97 13 c97 o10 co10 v11 ∧ (∀ i, o10 = some i → i < n) ∧ b5 ≠ b19 ∧ (∀ i, o10 = some i → i ≠ b5) ∧ (∀ i, o10 = some i → i ≠ b19)) ⟨by simp [ht', f1], by simp [ht', f4], by simp [ht', f5], by simp [ht', f7], by simp [ht', f9], by simp [ht', f21], by simp [ht', f22], by simp [ht', f23], (upd_ne _ _ d_b5_b19).trans b_b5, l_b5, upd_same _ _ _, l_b19, b_o10.mono (fun i hi => upd_ne _ _ (d_b19_o10 i hi)), l_o10, d_b5_b19, d_b5_o10, d_b19_o10⟩ ?_
        clear f1 f4 f5 f7 f9 f21 f22 f23 f26 b_b5 l_b5 b_b19 l_b19 b_o10 l_o10 d_b5_b19 d_b5_o10 d_b19_o10 ht' t'
        rintro t H n ⟨f1, f4, f5, f7, f9, f21, f22, f23, b_b5, l_b5, b_b19, l_b19, b_o10, l_o10, d_b5_b19, d_b5_o10, d_b19_o10⟩
        refine Stk.on ?_
        refine Stk.bk ?_
        refine Stk.sq ?_
        refine Stk.rg ?_
        refine Stk.run 5 (fun t H n => t 1 = .sc (.int .i64 a1) ∧ t 4 = .sc (.int .i64 v9) ∧ t 5 = slc o10 v11.length co10 ∧ t 7 = .own b5 0 ∧ t 9 = .own b19 0 ∧ t 21 = .ssl (encs c97 a0) a0.length false ∧ t 22 = .sc (.int .i64 (a0.length : Int)) ∧ t 23 = .sc (.int .i64 v12) ∧ t 31 = .sc (.bool (x18.Exps.1 == x4.Exps.1)) ∧ H b5 = some (.cells (c95 x4.Exps) 95) ∧ b5 < n ∧ H b19 = some (.cells (c97 x18) 97) ∧ b19 < n ∧ OwnC H 97 13 c97 o10 co10 v11 ∧ (∀ i, o10 = some i → i < n) ∧ b5 ≠ b19 ∧ (∀ i, o10 = some i → i ≠ b5) ∧ (∀ i, o10 = some i → i ≠ b19)) (fun J hJ => ?_) ?_
        · simp [-splice, f1, f4, f5, f7, f9, f21, f22, f23, b_b5, b_b19, ld_97_0_95, ld_95_0_95, eqM95]
          exact hJ _ _ _ ⟨by simp [f1], by simp [f4], by simp [f5], by simp [f7], by simp [f9], by simp [f21], by simp [f22], by simp [f23], by simp [-splice, f1, f4, f5, f7, f9, f21, f22, f23, b_b5, b_b19, ld_97_0_95, ld_95_0_95, eqM95], b_b5, l_b5, b_b19, l_b19, b_o10, l_o10, d_b5_b19, d_b5_o10, d_b19_o10⟩
        clear f1 f4 f5 f7 f9 f21 f22 f23 b_b5 l_b5 b_b19 l_b19 b_o10 l_o10 d_b5_b19 d_b5_o10 d_b19_o10
        rintro t H n ⟨f1, f4, f5, f7, f9, f21, f22, f23, f31, b_b5, l_b5, b_b19, l_b19, b_o10, l_o10, d_b5_b19, d_b5_o10, d_b19_o10⟩
        refine Stk.on ?_
        refine Stk.cond (x18.Exps.1 == x4.Exps.1) (by exact f31) (fun hb20 => ?_) (fun hb20 => ?_)
        · have h := cT hb20 h
          refine Stk.rg ?_
          refine Stk.run 3 (fun t H n => t 1 = .sc (.int .i64 a1) ∧ t 4 = .sc (.int .i64 x18.Coef) ∧ t 5 = slc o10 v11.length co10 ∧ t 7 = .own b5 0 ∧ t 21 = .ssl (encs c97 a0) a0.length false ∧ t 22 = .sc (.int .i64 (a0.length : Int)) ∧ t 23 = .sc (.int .i64 v12) ∧ H b5 = some (.cells (c95 x4.Exps) 95) ∧ b5 < n ∧ OwnC H 97 13 c97 o10 co10 v11 ∧ (∀ i, o10 = some i → i < n) ∧ (∀ i, o10 = some i → i ≠ b5)) (fun J hJ => ?_) ?_
          · simp [-splice, f1, f4, f5, f7, f9, f21, f22, f23, f31, b_b5, b_b19, ld_97_12_2]
            exact hJ _ _ _ ⟨by simp [f1], by simp [-splice, f1, f4, f5, f7, f9, f21, f22, f23, f31, b_b5, b_b19, ld_97_12_2], by simp [f5], by simp [f7], by simp [f21], by simp [f22], by simp [f23], b_b5, l_b5, b_o10, l_o10, d_b5_o10⟩
          clear f1 f4 f5 f7 f9 f21 f22 f23 f31 b_b5 l_b5 b_b19 l_b19 b_o10 l_o10 d_b5_b19 d_b5_o10 d_b19_o10
          rintro t H n ⟨f1, f4, f5, f7, f21, f22, f23, b_b5, l_b5, b_o10, l_o10, d_b5_o10⟩
          refine Stk.on ?_
          refine Stk.bn ?_
          refine Stk.bn ?_
          refine Stk.rg ?_
          refine Stk.run 2 (fun t H n => t 1 = .sc (.int .i64 a1) ∧ t 4 = .sc (.int .i64 x18.Coef) ∧ t 5 = slc o10 v11.length co10 ∧ t 7 = .own b5 0 ∧ t 21 = .ssl (encs c97 a0) a0.length false ∧ t 22 = .sc (.int .i64 (a0.length : Int)) ∧ t 23 = .sc (.int .i64 (IntKind.i64.wrap (v12 + 1))) ∧ H b5 = some (.cells (c95 x4.Exps) 95) ∧ b5 < n ∧ OwnC H 97 13 c97 o10 co10 v11 ∧ (∀ i, o10 = some i → i < n) ∧ (∀ i, o10 = some i → i ≠ b5)) (fun J hJ => ?_) ?_
          · simp [-splice, f1, f4, f5, f7, f21, f22, f23, b_b5]
            exact hJ _ _ _ ⟨by simp [f1], by simp [f4], by simp [f5], by simp [f7], by simp [f21], by simp [f22], by simp [-splice, f1, f4, f5, f7, f21, f22, f23, b_b5], b_b5, l_b5, b_o10, l_o10, d_b5_o10⟩
          clear f1 f4 f5 f7 f21 f22 f23 b_b5 l_b5 b_o10 l_o10 d_b5_o10
          rintro t H n ⟨f1, f4, f5, f7, f21, f22, f23, b_b5, l_b5, b_o10, l_o10, d_b5_o10⟩
          refine Stk.on ?_
          exact Stk.ln μ (Nat.lt_succ_self _) (hJ3 _ _ _ _ ⟨x18.Coef, o10, co10, v11, (IntKind.i64.wrap (v12 + 1)), h, f1, f4, f5, f7, f21, f22, f23, b_b5, l_b5, b_o10, l_o10, d_b5_o10⟩)
        · have h := cF hb20 h
          refine Stk.sq ?_
          refine Stk.rg ?_
          obtain ⟨x21, hx21, h⟩ := bnd h
          obtain ⟨i0x21, i1x21, i2x21, _⟩ := idx_ok hx21
          have i3x21 : a1 < 12 := by rw [x18.Exps.2] at i1x21; exact i1x21
          have i4x21 : a1.toNat < 12 := by omega
          have qx21 : partOf T.T 5 (c97 x18) a1.toNat = some (.sc (.int .u8 x21)) := by
            rw [c97]
            rw [part_head T.t5 (by decide) (by rw [Enc.len (e := c95)]; show _ + 1 ≤ _; omega)]
            rw [c95]
            have e0 := part_elem0 (e := c5) (z := 1) (T := T.T) (ty := 5) T.t5 (by decide) (by decide) hx21 0 (by decide)
            (try simp only [Nat.mul_one, Nat.add_zero] at e0)
            exact e0.trans rfl
          refine Stk.run 6 (fun t H n => t 1 = .sc (.int .i64 a1) ∧ t 4 = .sc (.int .i64 v9) ∧ t 5 = slc o10 v11.length co10 ∧ t 7 = .own b5 0 ∧ t 9 = .own b19 0 ∧ t 21 = .ssl (encs c97 a0) a0.length false ∧ t 22 = .sc (.int .i64 (a0.length : Int)) ∧ t 23 = .sc (.int .i64 v12) ∧ t 38 = .sc (.bool (decide (0 < x21))) ∧ H b5 = some (.cells (c95 x4.Exps) 95) ∧ b5 < n ∧ H b19 = some (.cells (c97 x18) 97) ∧ b19 < n ∧ OwnC H 97 13 c97 o10 co10 v11 ∧ (∀ i, o10 = some i → i < n) ∧ b5 ≠ b19 ∧ (∀ i, o10 = some i → i ≠ b5) ∧ (∀ i, o10 = some i → i ≠ b19)) (fun J hJ => ?_) ?_
          · simp [-splice, f1, f4, f5, f7, f9, f21, f22, f23, f31, b_b5, b_b19, i0x21, i1x21, i3x21, i4x21, qx21]
            exact hJ _ _ _ ⟨by simp [f1], by simp [f4], by simp [f5], by simp [f7], by simp [f9], by simp [f21], by simp [f22], by simp [f23], by simp [-splice, f1, f4, f5, f7, f9, f21, f22, f23, f31, b_b5, b_b19, i0x21, i1x21, i3x21, i4x21, qx21], b_b5, l_b5, b_b19, l_b19, b_o10, l_o10, d_b5_b19, d_b5_o10, d_b19_o10⟩
          clear f1 f4 f5 f7 f9 f21 f22 f23 f31 b_b5 l_b5 b_b19 l_b19 b_o10 l_o10 d_b5_b19 d_b5_o10 d_b19_o10
          rintro t H n ⟨f1, f4, f5, f7, f9, f21, f22, f23, f38, b_b5, l_b5, b_b19, l_b19, b_o10, l_o10, d_b5_b19, d_b5_o10, d_b19_o10⟩
          refine Stk.on ?_
          refine Stk.cond (decide (0 < x21)) (by exact f38) (fun hb22 => ?_) (fun hb22 => ?_)
          · have h := cT hb22 h
            refine Stk.sq ?_
            refine Stk.rg ?_
            refine Stk.run 2 (fun t H n => t 4 = .sc (.int .i64 0) ∧ t 5 = .sc (.slice none 0 0)) (fun J hJ => ?_) ?_
            · simp [-splice, f1, f4, f5, f7, f9, f21, f22, f23, f38, b_b5, b_b19]
              exact hJ _ _ _ ⟨by simp [-splice, f1, f4, f5, f7, f9, f21, f22, f23, f38, b_b5, b_b19], by simp [-splice, f1, f4, f5, f7, f9, f21, f22, f23, f38, b_b5, b_b19]⟩
            clear f1 f4 f5 f7 f9 f21 f22 f23 f38 b_b5 l_b5 b_b19 l_b19 b_o10 l_o10 d_b5_b19 d_b5_o10 d_b19_o10
            rintro t H n ⟨f4, f5⟩
            obtain ⟨o23, ho23⟩ : ∃ o : Option Nat, o = none := ⟨none, rfl⟩
            obtain ⟨co23, hco23⟩ : ∃ c : Option Nat, c = none := ⟨none, rfl⟩
            replace f5 : t 5 = slc o23 ([] : List api_Term).length co23 := by rw [ho23]; exact f5
            have b_o23 : OwnC H 97 13 c97 o23 co23 ([] : List api_Term) := by rw [ho23]; exact rfl
            have l_o23 : ∀ i, o23 = some i → i < n := by rw [ho23]; intro i e; cases e
            refine Stk.run 1 (fun t H n => t 4 = .sc (.int .i64 0) ∧ t 5 = slc o23 ([] : List api_Term).length co23 ∧ t 6 = .sc (.bool false) ∧ OwnC H 97 13 c97 o23 co23 ([] : List api_Term) ∧ (∀ i, o23 = some i → i < n)) (fun J hJ => ?_) ?_
            · simp [-splice, f4, f5]
              exact hJ _ _ _ ⟨by simp [f4], by simp [f5], by simp [-splice, f4, f5], b_o23, l_o23⟩
            clear f4 f5 b_o23 l_o23
            rintro t H n ⟨f4, f5, f6, b_o23, l_o23⟩
            refine Stk.on ?_
            refine Stk.rt ?_
            have hq := Option.some.inj h; subst hq
            exact (hr _ _ _ (.tup [.sc (.int .i64 0), slc o23 ([] : List api_Term).length co23, .sc (.bool false)]) (o23.toList) (by simp [f4, f5, f6]) (.inr (.inr (.tup (.cons (.free (rfl)) (.cons (view_ownC fr97 b_o23 (fun i hi => by simp [hi])) (.cons (.free (rfl)) (.nil)))))))).1
          · have h := cF hb22 h
            refine Stk.rg ?_
            refine Stk.run 2 (fun t H n => t 1 = .sc (.int .i64 a1) ∧ t 4 = .sc (.int .i64 v9) ∧ t 7 = .own b5 0 ∧ t 21 = .ssl (encs c97 a0) a0.length false ∧ t 22 = .sc (.int .i64 (a0.length : Int)) ∧ t 23 = .sc (.int .i64 v12) ∧ t 27 = slc o10 v11.length co10 ∧ t 28 = .agg (c97 x18) ∧ H b5 = some (.cells (c95 x4.Exps) 95) ∧ b5 < n ∧ OwnC H 97 13 c97 o10 co10 v11 ∧ (∀ i, o10 = some i → i < n) ∧ (∀ i, o10 = some i → i ≠ b5)) (fun J hJ => ?_) ?_
            · simp [-splice, f1, f4, f5, f7, f9, f21, f22, f23, f38, b_b5, b_b19, ld_97_0_97]
              exact hJ _ _ _ ⟨by simp [f1], by simp [f4], by simp [f7], by simp [f21], by simp [f22], by simp [f23], by simp [-splice, f1, f4, f5, f7, f9, f21, f22, f23, f38, b_b5, b_b19, ld_97_0_97], by simp [-splice, f1, f4, f5, f7, f9, f21, f22, f23, f38, b_b5, b_b19, ld_97_0_97], b_b5, l_b5, b_o10, l_o10, d_b5_o10⟩
            clear f1 f4 f5 f7 f9 f21 f22 f23 f38 b_b5 l_b5 b_b19 l_b19 b_o10 l_o10 d_b5_b19 d_b5_o10 d_b19_o10
            rintro t H n ⟨f1, f4, f7, f21, f22, f23, f27, f28, b_b5, l_b5, b_o10, l_o10, d_b5_o10⟩
            refine Stk.om (mop_buildN (c := c97) (z := 13) T.t37 rfl T.t97 rfl (by decide) rfl (by decide) [x18] rfl (.cons f28 rfl rfl rfl (len97 _) (by simp [length_encs]) (splice_next (c := c97) [] _ x18 rfl (by simp)) (.nil))) (by simp [f1, f4, f7, f21, f22, f23, f27, f28]) rfl (fun t' ht' => ?_)
            refine Stk.gen (fun t H n => ∃ b24, t 1 = .sc (.int .i64 a1) ∧ t 4 = .sc (.int .i64 v9) ∧ t 7 = .own b5 0 ∧ t 21 = .ssl (encs c97 a0) a0.length false ∧ t 22 = .sc (.int .i64 (a0.length : Int)) ∧ t 23 = .sc (.int .i64 v12) ∧ t 27 = slc o10 v11.length co10 ∧ t 29 = .osl b24 0 ([x18] : List api_Term).length (some ([x18] : List api_Term).length) ∧ H b5 = some (.cells (c95 x4.Exps) 95) ∧ b5 < n ∧ H b24 = some (.cells (encs c97 ([x18] : List api_Term)) 97) ∧ b24 < n ∧ OwnC H 97 13 c97 o10 co10 v11 ∧ (∀ i, o10 = some i → i < n) ∧ b5 ≠ b24 ∧ (∀ i, o10 = some i → i ≠ b5) ∧ (∀ i, o10 = some i → i ≠ b24)) ⟨n, by simp [ht', f1], by simp [ht', f4], by simp [ht', f7], by simp [ht', f21], by simp [ht', f22], by simp [ht', f23], by simp [ht', f27], by simp [ht'], (upd_ne _ _ (Nat.ne_of_lt l_b5)).trans b_b5, Nat.lt_succ_of_lt l_b5, upd_same _ _ _, Nat.lt_succ_self _, b_o10.mono (fun i hi => upd_ne _ _ (Nat.ne_of_lt (l_o10 i hi))), fun i hi => Nat.lt_succ_of_lt (l_o10 i hi), Nat.ne_of_lt l_b5, d_b5_o10, fun i hi => Nat.ne_of_lt (l_o10 i hi)⟩ ?_
            clear f1 f4 f7 f21 f22 f23 f27 f28 b_b5 l_b5 b_o10 l_o10 d_b5_o10 ht' t'
            rintro t H n ⟨b24, f1, f4, f7, f21, f22, f23, f27, f29, b_b5, l_b5, b_b24, l_b24, b_o10, l_o10, d_b5_b24, d_b5_o10, d_b24_o10⟩
            obtain ⟨x25, hx25, h⟩ := bnd h
            obtain ⟨r1x25, r2x25, r3x25⟩ := appM_ok hx25
            obtain ⟨o26, co26, H9, n9, e9, w9, le9, fr9, kp9⟩ := append_ownC (e := c97) (z := 13) (st := 37) T.t37 rfl T.t97 rfl (by decide) rfl (by decide) b_o10 l_o10 (y := .osl b24 0 ([x18] : List api_Term).length (some ([x18] : List api_Term).length)) ([x18] : List api_Term) (elems_row b_b24 _) (all_encs ok97 _) r1x25 r2x25
            rw [r3x25] at e9 w9
            refine Stk.om ((mop_append T.t37 rfl).trans (by rw [show ev t (.tmp 27) = t 27 from rfl, f27]; rw [show ev t (.tmp 29) = t 29 from rfl, f29];  exact e9)) (by simp [f1, f4, f7, f21, f22, f23, f27, f29]) rfl (fun t' ht' => ?_)
            refine Stk.gen (fun t H n => t 1 = .sc (.int .i64 a1) ∧ t 4 = .sc (.int .i64 v9) ∧ t 7 = .own b5 0 ∧ t 21 = .ssl (encs c97 a0) a0.length false ∧ t 22 = .sc (.int .i64 (a0.length : Int)) ∧ t 23 = .sc (.int .i64 v12) ∧ t 30 = slc o26 x25.length co26 ∧ H b5 = some (.cells (c95 x4.Exps) 95) ∧ b5 < n ∧ OwnC H 97 13 c97 o26 co26 x25 ∧ (∀ i, o26 = some i → i < n) ∧ (∀ i, o26 = some i → i ≠ b5)) ⟨by simp [ht', f1], by simp [ht', f4], by simp [ht', f7], by simp [ht', f21], by simp [ht', f22], by simp [ht', f23], by simp [ht'], (kp9 _ l_b5 (fun e => d_b5_o10 _ e rfl)).trans b_b5, Nat.lt_of_lt_of_le l_b5 le9, w9, fun i hi => (fr9 i hi).2, fun i hi e => by rcases (fr9 i hi).1 with g | g; exact d_b5_o10 i g e; have := l_b5; omega⟩ ?_
            clear f1 f4 f7 f21 f22 f23 f27 f29 b_b5 l_b5 b_b24 l_b24 b_o10 l_o10 d_b5_b24 d_b5_o10 d_b24_o10 ht' t'
            rintro t H n ⟨f1, f4, f7, f21, f22, f23, f30, b_b5, l_b5, b_o26, l_o26, d_b5_o26⟩
            refine Stk.run 1 (fun t H n => t 1 = .sc (.int .i64 a1) ∧ t 4 = .sc (.int .i64 v9) ∧ t 5 = slc o26 x25.length co26 ∧ t 7 = .own b5 0 ∧ t 21 = .ssl (encs c97 a0) a0.length false ∧ t 22 = .sc (.int .i64 (a0.length : Int)) ∧ t 23 = .sc (.int .i64 v12) ∧ H b5 = some (.cells (c95 x4.Exps) 95) ∧ b5 < n ∧ OwnC H 97 13 c97 o26 co26 x25 ∧ (∀ i, o26 = some i → i < n) ∧ (∀ i, o26 = some i → i ≠ b5)) (fun J hJ => ?_) ?_
            · simp [-splice, f1, f4, f7, f21, f22, f23, f30, b_b5]
              exact hJ _ _ _ ⟨by simp [f1], by simp [f4], by simp [-splice, f1, f4, f7, f21, f22, f23, f30, b_b5], by simp [f7], by simp [f21], by simp [f22], by simp [f23], b_b5, l_b5, b_o26, l_o26, d_b5_o26⟩
            clear f1 f4 f7 f21 f22 f23 f30 b_b5 l_b5 b_o26 l_o26 d_b5_o26
            rintro t H n ⟨f1, f4, f5, f7, f21, f22, f23, b_b5, l_b5, b_o26, l_o26, d_b5_o26⟩
            refine Stk.on ?_
            refine Stk.bn ?_
            refine Stk.bn ?_
            refine Stk.rg ?_
            refine Stk.run 2 (fun t H n => t 1 = .sc (.int .i64 a1) ∧ t 4 = .sc (.int .i64 v9) ∧ t 5 = slc o26 x25.length co26 ∧ t 7 = .own b5 0 ∧ t 21 = .ssl (encs c97 a0) a0.length false ∧ t 22 = .sc (.int .i64 (a0.length : Int)) ∧ t 23 = .sc (.int .i64 (IntKind.i64.wrap (v12 + 1))) ∧ H b5 = some (.cells (c95 x4.Exps) 95) ∧ b5 < n ∧ OwnC H 97 13 c97 o26 co26 x25 ∧ (∀ i, o26 = some i → i < n) ∧ (∀ i, o26 = some i → i ≠ b5)) (fun J hJ => ?_) ?_
            · simp [-splice, f1, f4, f5, f7, f21, f22, f23, b_b5]
              exact hJ _ _ _ ⟨by simp [f1], by simp [f4], by simp [f5], by simp [f7], by simp [f21], by simp [f22], by simp [-splice, f1, f4, f5, f7, f21, f22, f23, b_b5], b_b5, l_b5, b_o26, l_o26, d_b5_o26⟩
            clear f1 f4 f5 f7 f21 f22 f23 b_b5 l_b5 b_o26 l_o26 d_b5_o26
            rintro t H n ⟨f1, f4, f5, f7, f21, f22, f23, b_b5, l_b5, b_o26, l_o26, d_b5_o26⟩
            refine Stk.on ?_
            exact Stk.ln μ (Nat.lt_succ_self _) (hJ3 _ _ _ _ ⟨v9, o26, co26, x25, (IntKind.i64.wrap (v12 + 1)), h, f1, f4, f5, f7, f21, f22, f23, b_b5, l_b5, b_o26, l_o26, d_b5_o26⟩)
      · have h := cF hb17 h
        refine Stk.ex rfl ?_
        exact Stk.ln 0 (by decide) (hJ2 _ _ _ ⟨v9, o10, co10, v11, h, f4, f5, b_o10, l_o10⟩)
    clear h f1 f4 f5 f7 f21 f22 f23 b_b5 l_b5 b_o1 l_o1 d_b5_o1
    rintro t H n ⟨v6, o7, co7, v8, h, f4, f5, b_o7, l_o7⟩
    subst hK2
    refine Stk.sq ?_
    refine Stk.rg ?_
    refine Stk.run 5 (fun t H n => t 4 = .sc (.int .i64 v6) ∧ t 5 = slc o7 v8.length co7 ∧ t 6 = .sc (.bool true) ∧ OwnC H 97 13 c97 o7 co7 v8 ∧ (∀ i, o7 = some i → i < n)) (fun J hJ => ?_) ?_
    · simp [-splice, f4, f5]
      exact hJ _ _ _ ⟨by simp [f4], by simp [f5], by simp [-splice, f4, f5], b_o7, l_o7⟩
    clear f4 f5 b_o7 l_o7
    rintro t H n ⟨f4, f5, f6, b_o7, l_o7⟩
    refine Stk.on ?_
    refine Stk.rt ?_
    have hq := Option.some.inj h; subst hq
    exact (hr _ _ _ (.tup [.sc (.int .i64 v6), slc o7 v8.length co7, .sc (.bool true)]) (o7.toList) (by simp [f4, f5, f6]) (.inr (.inr (.tup (.cons (.free (rfl)) (.cons (view_ownC fr97 b_o7 (fun i hi => by simp [hi])) (.cons (.free (rfl)) (.nil)))))))).1
theorem ok_R13_Has (F : Nat) (a0 : (List api_Term)) (a1 : Int) (r : Bool) (h : R13_Has F a0 a1 = some r) : RunF Try.prog T.T 40 [.ssl (encs c97 a0) a0.length false, .sc (.int .i64 a1)] (.sc (.bool r)) := by
  rw [R13_Has] at h
  refine RunF.z Try.func40 rfl rfl rfl rfl rfl (fun C hr => ?_)
  refine Stk.gen (fun t H n => t 0 = .ssl (encs c97 a0) a0.length false ∧ t 1 = .sc (.int .i64 a1)) ⟨by simp, by simp⟩ ?_
  rintro t H n ⟨f0, f1⟩
  refine Stk.sq ?_
  refine Stk.rg ?_
  refine Stk.run 1 (fun t H n => t 0 = .ssl (encs c97 a0) a0.length false ∧ t 1 = .sc (.int .i64 a1)) (fun J hJ => ?_) ?_
  · simp [-splice, f0, f1]
    exact hJ _ _ _ ⟨by simp [f0], by simp [f1]⟩
  clear f0 f1
  rintro t H n ⟨f0, f1⟩
  refine Stk.on ?_
  refine Stk.sq ?_
  refine Stk.sq ?_
  refine Stk.rg ?_
  refine Stk.run 1 (fun t H n => t 0 = .ssl (encs c97 a0) a0.length false ∧ t 1 = .sc (.int .i64 a1) ∧ t 5 = .sc (.int .i64 0)) (fun J hJ => ?_) ?_
  · simp [-splice, f0, f1]
    exact hJ _ _ _ ⟨by simp [f0], by simp [f1], by simp [-splice, f0, f1]⟩
  clear f0 f1
  rintro t H n ⟨f0, f1, f5⟩
  refine Stk.on ?_
  refine Stk.bk ?_
  refine Stk.lo (fun μ t H n => ∃ v1 : Int, R13_Has_L0 F a0 a1 μ v1 = some r ∧ t 0 = .ssl (encs c97 a0) a0.length false ∧ t 1 = .sc (.int .i64 a1) ∧ t 5 = .sc (.int .i64 v1)) F ⟨0, h, f0, f1, f5⟩ ?_
  clear h f0 f1 f5
  rintro J1 hJ1 μ t H n ⟨v1, h, f0, f1, f5⟩
  cases μ with
  | zero => exact absurd h (by simp [R13_Has_L0])
  | succ μ =>
  rw [R13_Has_L0] at h
  refine Stk.sq ?_
  refine Stk.sq ?_
  refine Stk.rg ?_
  refine Stk.run 4 (fun t H n => t 0 = .ssl (encs c97 a0) a0.length false ∧ t 1 = .sc (.int .i64 a1) ∧ t 5 = .sc (.int .i64 v1) ∧ t 9 = .sc (.bool (decide (v1 < (a0.length : Int))))) (fun J hJ => ?_) ?_
  · simp [-splice, f0, f1, f5]
    exact hJ _ _ _ ⟨by simp [f0], by simp [f1], by simp [f5], by simp [-splice, f0, f1, f5]⟩
  clear f0 f1 f5
  rintro t H n ⟨f0, f1, f5, f9⟩
  refine Stk.on ?_
  refine Stk.cond (decide (v1 < (a0.length : Int))) (by exact f9) (fun hb3 => ?_) (fun hb3 => ?_)
  · have h := cT hb3 h
    refine Stk.sk ?_
    refine Stk.sq ?_
    refine Stk.bk ?_
    refine Stk.sq ?_
    refine Stk.rg ?_
    refine Stk.run 3 (fun t H n => t 0 = .ssl (encs c97 a0) a0.length false ∧ t 1 = .sc (.int .i64 a1) ∧ t 5 = .sc (.int .i64 v1) ∧ t 14 = .sc (.bool (decide (0 ≤ a1)))) (fun J hJ => ?_) ?_
    · simp [-splice, f0, f1, f5, f9]
      exact hJ _ _ _ ⟨by simp [f0], by simp [f1], by simp [f5], by simp [-splice, f0, f1, f5, f9]⟩
    clear f0 f1 f5 f9
    rintro t H n ⟨f0, f1, f5, f14⟩
    refine Stk.jo 3 (fun t H n => t 0 = .ssl (encs c97 a0) a0.length false ∧ t 1 = .sc (.int .i64 a1) ∧ t 5 = .sc (.int .i64 v1) ∧ t 17 = .sc (.bool ((decide (0 ≤ a1)) && (decide (a1 < 12))))) (fun J2 hJ2 => ?_) ?_
    · rcases Bool.eq_false_or_eq_true (decide (0 ≤ a1)) with hb2 | hb2
      · rw [hb2] at f14
        refine Stk.run 3 (fun t H n => t 0 = .ssl (encs c97 a0) a0.length false ∧ t 1 = .sc (.int .i64 a1) ∧ t 5 = .sc (.int .i64 v1) ∧ t 17 = .sc (.bool (decide (a1 < 12)))) (fun J hJ => ?_) ?_
        · simp [-splice, f0, f1, f5, f14]
          exact hJ _ _ _ ⟨by simp [f0], by simp [f1], by simp [f5], by simp [-splice, f0, f1, f5, f14]⟩
        clear f0 f1 f5 f14
        rintro t H n ⟨f0, f1, f5, f17⟩
        refine Stk.on ?_
        exact Stk.ln 0 (by decide) (hJ2 _ _ _ ⟨f0, f1, f5, f17.trans (congrArg (fun q => AV.sc (.bool q)) (by rw [hb2]; rfl))⟩)
      · rw [hb2] at f14
        refine Stk.run 3 (fun t H n => t 0 = .ssl (encs c97 a0) a0.length false ∧ t 1 = .sc (.int .i64 a1) ∧ t 5 = .sc (.int .i64 v1) ∧ t 17 = .sc (.bool false)) (fun J hJ => ?_) ?_
        · simp [-splice, f0, f1, f5, f14]
          exact hJ _ _ _ ⟨by simp [f0], by simp [f1], by simp [f5], by simp [-splice, f0, f1, f5, f14]⟩
        clear f0 f1 f5 f14
        rintro t H n ⟨f0, f1, f5, f17⟩
        refine Stk.on ?_
        exact Stk.ln 0 (by decide) (hJ2 _ _ _ ⟨f0, f1, f5, f17.trans (congrArg (fun q => AV.sc (.bool q)) (by rw [hb2]; rfl))⟩)
    clear f0 f1 f5 f14
    rintro t H n ⟨f0, f1, f5, f17⟩
    refine Stk.run 1 (fun t H n => t 0 = .ssl (encs c97 a0) a0.length false ∧ t 1 = .sc (.int .i64 a1) ∧ t 5 = .sc (.int .i64 v1) ∧ t 18 = .sc (.bool ((decide (0 ≤ a1)) && (decide (a1 < 12))))) (fun J hJ => ?_) ?_
    · simp [-splice, f0, f1, f5, f17]
      exact hJ _ _ _ ⟨by simp [f0], by simp [f1], by simp [f5], by simp [-splice, f0, f1, f5, f17]⟩
    clear f0 f1 f5 f17
    rintro t H n ⟨f0, f1, f5, f18⟩
    obtain ⟨K3, hK3, h⟩ := jnd h
    refine Stk.jo 9 (fun t H n => ∃ v4 : Bool, K3 v4 = some r ∧ t 0 = .ssl (encs c97 a0) a0.length false ∧ t 1 = .sc (.int .i64 a1) ∧ t 5 = .sc (.int .i64 v1) ∧ t 27 = .sc (.bool v4)) (fun J3 hJ3 => ?_) ?_
    · rcases Bool.eq_false_or_eq_true ((decide (0 ≤ a1)) && (decide (a1 < 12))) with hb3 | hb3
      · rw [hb3] at f18
        replace h := cT hb3 h
        obtain ⟨x5, hx5, h⟩ := bnd h
        obtain ⟨i0x5, i1x5, i2x5, _⟩ := idx_ok hx5
        obtain ⟨x6, hx6, h⟩ := bnd h
        obtain ⟨i0x6, i1x6, i2x6, _⟩ := idx_ok hx6
        have i3x6 : a1 < 12 := by rw [x5.Exps.2] at i1x6; exact i1x6
        have i4x6 : a1.toNat < 12 := by omega
        have qx6 : partOf T.T 5 (encs c97 a0) (v1.toNat * 13 + a1.toNat) = some (.sc (.int .u8 x6)) := by
          have e1 := part_elem0 (e := c97) (z := 13) (T := T.T) (ty := 5) T.t5 (by decide) (by decide) hx5 a1.toNat (by show _ + 1 ≤ _; omega)
          have e2 : partOf T.T 5 (c97 x5) a1.toNat = some (.sc (.int .u8 x6)) := by
            rw [c97]
            rw [part_head T.t5 (by decide) (by rw [Enc.len (e := c95)]; show _ + 1 ≤ _; omega)]
            rw [c95]
            have e0 := part_elem0 (e := c5) (z := 1) (T := T.T) (ty := 5) T.t5 (by decide) (by decide) hx6 0 (by decide)
            (try simp only [Nat.mul_one, Nat.add_zero] at e0)
            exact e0.trans rfl
          rw [e2] at e1
          simpa [Nat.add_assoc] using e1
        refine Stk.run 9 (fun t H n => t 0 = .ssl (encs c97 a0) a0.length false ∧ t 1 = .sc (.int .i64 a1) ∧ t 5 = .sc (.int .i64 v1) ∧ t 27 = .sc (.bool (decide (0 < x6)))) (fun J hJ => ?_) ?_
        · simp [-splice, f0, f1, f5, f18, i0x5, i1x5, i0x6, i1x6, i3x6, i4x6, pd5, qx6]
          exact hJ _ _ _ ⟨by simp [f0], by simp [f1], by simp [f5], by simp [-splice, f0, f1, f5, f18, i0x5, i1x5, i0x6, i1x6, i3x6, i4x6, pd5, qx6]⟩
        clear f0 f1 f5 f18
        rintro t H n ⟨f0, f1, f5, f27⟩
        refine Stk.on ?_
        exact Stk.ln 0 (by decide) (hJ3 _ _ _ ⟨(decide (0 < x6)), h, f0, f1, f5, f27⟩)
      · rw [hb3] at f18
        replace h := cF hb3 h
        refine Stk.run 9 (fun t H n => t 0 = .ssl (encs c97 a0) a0.length false ∧ t 1 = .sc (.int .i64 a1) ∧ t 5 = .sc (.int .i64 v1) ∧ t 27 = .sc (.bool false)) (fun J hJ => ?_) ?_
        · simp [-splice, f0, f1, f5, f18]
          exact hJ _ _ _ ⟨by simp [f0], by simp [f1], by simp [f5], by simp [-splice, f0, f1, f5, f18]⟩
        clear f0 f1 f5 f18
        rintro t H n ⟨f0, f1, f5, f27⟩
        refine Stk.on ?_
        exact Stk.ln 0 (by decide) (hJ3 _ _ _ ⟨false, h, f0, f1, f5, f27⟩)
    clear h f0 f1 f5 f18
    rintro t H n ⟨v4, h, f0, f1, f5, f27⟩
    subst hK3
    refine Stk.on ?_
    refine Stk.cond v4 (by exact f27) (fun hb7 => ?_) (fun hb7 => ?_)
    · have h := cT hb7 h
      refine Stk.sq ?_
      refine Stk.rg ?_
      refine Stk.run 1 (fun t H n => t 4 = .sc (.bool true)) (fun J hJ => ?_) ?_
      · simp [-splice, f0, f1, f5, f27]
        exact hJ _ _ _ (by simp [-splice, f0, f1, f5, f27])
      clear f0 f1 f5 f27
      rintro t H n f4
      refine Stk.on ?_
      refine Stk.rt ?_
      have hq := Option.some.inj h; subst hq
      exact (hr _ _ _ (.sc (.bool true)) ([]) (by simp [f4]) (.inr (.inr (.free (rfl))))).1
    · have h := cF hb7 h
      refine Stk.sk ?_
      refine Stk.bn ?_
      refine Stk.rg ?_
      refine Stk.run 3 (fun t H n => t 0 = .ssl (encs c97 a0) a0.length false ∧ t 1 = .sc (.int .i64 a1) ∧ t 5 = .sc (.int .i64 (IntKind.i64.wrap (v1 + 1)))) (fun J hJ => ?_) ?_
      · simp [-splice, f0, f1, f5, f27]
        exact hJ _ _ _ ⟨by simp [f0], by simp [f1], by simp [-splice, f0, f1, f5, f27]⟩
      clear f0 f1 f5 f27
      rintro t H n ⟨f0, f1, f5⟩
      refine Stk.on ?_
      exact Stk.ln μ (Nat.lt_succ_self _) (hJ1 _ _ _ _ ⟨(IntKind.i64.wrap (v1 + 1)), h, f0, f1, f5⟩)
  · have h := cF hb3 h
    refine Stk.ex rfl ?_
    refine Stk.sq ?_
    refine Stk.rg ?_
    refine Stk.run 1 (fun t H n => t 4 = .sc (.bool false)) (fun J hJ => ?_) ?_
    · simp [-splice, f0, f1, f5, f9]
      exact hJ _ _ _ (by simp [-splice, f0, f1, f5, f9])
    clear f0 f1 f5 f9
    rintro t H n f4
    refine Stk.on ?_
    refine Stk.rt ?_
    have hq := Option.some.inj h; subst hq
    exact (hr _ _ _ (.sc (.bool false)) ([]) (by simp [f4]) (.inr (.inr (.free (rfl))))).1
end Go.Proofs.Ytfbkgjmpadknfaa.M
