/-
  The functions come to them.
-/
import Derived.Test.YtappiofmkoelnaaTtM
import Derived.Test.YtappiofmkoelnaaTtW0
namespace Go.Proofs.Ytappiofmkoelnaa.M
open Go.Proofs.YtappiofmkoelnaaW.Ah Go.Proofs.Ytappiofmkoelnaa
set_option linter.unusedVariables false
set_option linter.unusedSimpArgs false
set_option maxRecDepth 8000
attribute [local simp] T.t3 T.t4 T.t9 T.t22 T.t30 T.t32 T.t33 T.t35 T.t40 T.t43 T.t48 T.t49 T.t51 T.t73 T.t75 T.t77 T.t79 List.range List.range.loop
attribute [-simp] appendAV fillAV
theorem ok_R04_LightProg (F : Nat) (a0 : api_Prog) (a1 : Int) (r : Int) (h : R04_LightProg F a0 a1 = some r) : RunF Try.prog T.T 13 [.agg (c51 a0), .sc (.int .i64 a1)] (.sc (.int .i64 r)) := by
  rw [R04_LightProg] at h
  refine RunF.z Try.func13 rfl rfl rfl rfl rfl (fun C hr => ?_)
  refine Stk.gen (fun t H n => t 0 = .agg (c51 a0) ∧ t 1 = .sc (.int .i64 a1)) ⟨by simp, by simp⟩ ?_
  rintro t H n ⟨f0, f1⟩
  refine Stk.sq ?_
  refine Stk.rg ?_
  refine Stk.om (mop_box T.t51 (cs := c51 a0) (by show partOk (t 0) = true; rw [f0]; rfl) (by show cellsOf (t 0) = _; rw [f0]; rfl)) (by simp [f0, f1]) rfl (fun t' ht' => ?_)
  refine Stk.gen (fun t H n => ∃ b1, t 1 = .sc (.int .i64 a1) ∧ t 2 = .own b1 0 ∧ H b1 = some (.cells (c51 a0) 51) ∧ b1 < n) ⟨n, by simp [ht', f1], by simp [ht'], upd_same _ _ _, Nat.lt_succ_self _⟩ ?_
  clear f0 f1 ht' t'
  rintro t H n ⟨b1, f1, f2, b_b1, l_b1⟩
  refine Stk.run 1 (fun t H n => t 1 = .sc (.int .i64 a1) ∧ t 2 = .own b1 0 ∧ H b1 = some (.cells (c51 a0) 51) ∧ b1 < n) (fun J hJ => ?_) ?_
  · simp [-splice, f1, f2, b_b1]
    exact hJ _ _ _ ⟨by simp [f1], by simp [f2], b_b1, l_b1⟩
  clear f1 f2 b_b1 l_b1
  rintro t H n ⟨f1, f2, b_b1, l_b1⟩
  refine Stk.on ?_
  refine Stk.sq ?_
  obtain ⟨n0, hn0⟩ : ∃ m, m = n := ⟨n, rfl⟩
  have ln0 : n0 ≤ n := Nat.le_of_eq hn0
  refine Stk.rgD [.rd [], .rd [b1], .rd [], .rd [b1], .rd [], .rd [], .rd [], .rd []] none (by kernel_rfl) (by rfl) rfl (by simp [below, hn0, l_b1]) rfl ?_
  refine Stk.runD 5 (fun t H n => t 2 = .own b1 0 ∧ t 13 = .agg (c48 a0.Init) ∧ t 15 = .agg (c40 a0.State) ∧ t 16 = .sc (.int .i64 a1) ∧ H b1 = some (.cells (c51 a0) 51) ∧ b1 < n ∧ n0 ≤ n) (fun J hJ => ?_) ?_
  · simp [-splice, f1, f2, b_b1, ld_51_8_48, ld_51_4_40]
    exact hJ _ _ _ ⟨by simp [f2], by simp [-splice, f1, f2, b_b1, ld_51_8_48, ld_51_4_40], by simp [-splice, f1, f2, b_b1, ld_51_8_48, ld_51_4_40], by simp [-splice, f1, f2, b_b1, ld_51_8_48, ld_51_4_40], b_b1, l_b1, ln0⟩
  clear f1 f2 b_b1 l_b1 ln0
  rintro t H n ⟨f2, f13, f15, f16, b_b1, l_b1, ln0⟩
  obtain ⟨x2, hx2, h⟩ := bnd h
  refine Stk.cvD (g := 14) (args := [.agg (c40 a0.State), .sc (.int .i64 a1)]) (args' := [.agg (c40 a0.State), .sc (.int .i64 a1)]) (v := .sc (.int .i64 x2)) [] (ok_R04_LightType F _ _ _ hx2) rfl (by simp) rfl (by simp [f2, f13, f15, f16]) rfl rfl (by simp [f2, f13, f15, f16]) (.cons (.free (fr40 _)) (.cons (.free (rfl)) (.nil))) (.inl ⟨rfl, rfl⟩) (fun t' ht' => ?_)
  refine Stk.gen (fun t H n => t 2 = .own b1 0 ∧ t 13 = .agg (c48 a0.Init) ∧ t 17 = .sc (.int .i64 x2) ∧ H b1 = some (.cells (c51 a0) 51) ∧ b1 < n ∧ n0 ≤ n) ⟨by simp [ht', f2], by simp [ht', f13], by simp [ht'], b_b1, l_b1, ln0⟩ ?_
  clear f2 f13 f15 f16 b_b1 l_b1 ln0 ht' t'
  rintro t H n ⟨f2, f13, f17, b_b1, l_b1, ln0⟩
  obtain ⟨x3, hx3, h⟩ := bnd h
  refine Stk.cvD (g := 32) (args := [.agg (c48 a0.Init), .sc (.int .i64 x2)]) (args' := [.agg (c48 a0.Init), .sc (.int .i64 x2)]) (v := .sc (.int .i64 x3)) [] (ok_R04_Light F _ _ _ hx3) rfl (by simp) rfl (by simp [f2, f13, f17]) rfl rfl (by simp [f2, f13, f17]) (.cons (.free (fr48 _)) (.cons (.free (rfl)) (.nil))) (.inl ⟨rfl, rfl⟩) (fun t' ht' => ?_)
  refine Stk.gen (fun t H n => t 2 = .own b1 0 ∧ t 18 = .sc (.int .i64 x3) ∧ H b1 = some (.cells (c51 a0) 51) ∧ b1 < n ∧ n0 ≤ n) ⟨by simp [ht', f2], by simp [ht'], b_b1, l_b1, ln0⟩ ?_
  clear f2 f13 f17 b_b1 l_b1 ln0 ht' t'
  rintro t H n ⟨f2, f18, b_b1, l_b1, ln0⟩
  refine Stk.runD 1 (fun t H n => t 1 = .sc (.int .i64 x3) ∧ t 2 = .own b1 0 ∧ H b1 = some (.cells (c51 a0) 51) ∧ b1 < n ∧ n0 ≤ n) (fun J hJ => ?_) ?_
  · simp [-splice, f2, f18, b_b1]
    exact hJ _ _ _ ⟨by simp [-splice, f2, f18, b_b1], by simp [f2], b_b1, l_b1, ln0⟩
  clear f2 f18 b_b1 l_b1 ln0
  rintro t H n ⟨f1, f2, b_b1, l_b1, ln0⟩
  refine Stk.onD ?_
  refine Stk.sq ?_
  refine Stk.sq ?_
  refine Stk.rg ?_
  refine Stk.run 1 (fun t H n => t 1 = .sc (.int .i64 x3) ∧ t 2 = .own b1 0 ∧ t 5 = .sc (.int .i64 0) ∧ H b1 = some (.cells (c51 a0) 51) ∧ b1 < n) (fun J hJ => ?_) ?_
  · simp [-splice, f1, f2, b_b1]
    exact hJ _ _ _ ⟨by simp [f1], by simp [f2], by simp [-splice, f1, f2, b_b1], b_b1, l_b1⟩
  clear f1 f2 b_b1 l_b1 ln0
  rintro t H n ⟨f1, f2, f5, b_b1, l_b1⟩
  refine Stk.on ?_
  obtain ⟨K1, hK1, h⟩ := jnd h
  refine Stk.jn (fun t H n => ∃ v4 : Int, K1 v4 = some r ∧ t 1 = .sc (.int .i64 v4) ∧ t 2 = .own b1 0 ∧ H b1 = some (.cells (c51 a0) 51) ∧ b1 < n) trivial (fun J1 hJ1 => ?_) ?_
  · skip
    refine Stk.bk ?_
    refine Stk.lo (fun μ t H n => ∃ v5 : Int, ∃ v6 : Int, R04_LightProg_L0 F a0 K1 μ v5 v6 = some r ∧ t 1 = .sc (.int .i64 v5) ∧ t 2 = .own b1 0 ∧ t 5 = .sc (.int .i64 v6) ∧ H b1 = some (.cells (c51 a0) 51) ∧ b1 < n) F ⟨x3, 0, h, f1, f2, f5, b_b1, l_b1⟩ ?_
    clear h f1 f2 f5 b_b1 l_b1
    rintro J2 hJ2 μ t H n ⟨v5, v6, h, f1, f2, f5, b_b1, l_b1⟩
    cases μ with
    | zero => exact absurd h (by simp [R04_LightProg_L0])
    | succ μ =>
    rw [R04_LightProg_L0] at h
    refine Stk.sq ?_
    refine Stk.sq ?_
    refine Stk.rg ?_
    refine Stk.run 6 (fun t H n => t 1 = .sc (.int .i64 v5) ∧ t 2 = .own b1 0 ∧ t 5 = .sc (.int .i64 v6) ∧ t 24 = .sc (.bool (decide (v6 < (a0.Datas.length : Int)))) ∧ H b1 = some (.cells (c51 a0) 51) ∧ b1 < n) (fun J hJ => ?_) ?_
    · simp [-splice, f1, f2, f5, b_b1, ld_51_0_22]
      exact hJ _ _ _ ⟨by simp [f1], by simp [f2], by simp [f5], by simp [-splice, f1, f2, f5, b_b1, ld_51_0_22], b_b1, l_b1⟩
    clear f1 f2 f5 b_b1 l_b1
    rintro t H n ⟨f1, f2, f5, f24, b_b1, l_b1⟩
    refine Stk.jo 3 (fun t H n => t 1 = .sc (.int .i64 v5) ∧ t 2 = .own b1 0 ∧ t 5 = .sc (.int .i64 v6) ∧ t 27 = .sc (.bool ((decide (v6 < (a0.Datas.length : Int))) && (decide (0 ≤ v5)))) ∧ H b1 = some (.cells (c51 a0) 51) ∧ b1 < n) (fun J3 hJ3 => ?_) ?_
    · rcases Bool.eq_false_or_eq_true (decide (v6 < (a0.Datas.length : Int))) with hb3 | hb3
      · rw [hb3] at f24
        refine Stk.run 3 (fun t H n => t 1 = .sc (.int .i64 v5) ∧ t 2 = .own b1 0 ∧ t 5 = .sc (.int .i64 v6) ∧ t 27 = .sc (.bool (decide (0 ≤ v5))) ∧ H b1 = some (.cells (c51 a0) 51) ∧ b1 < n) (fun J hJ => ?_) ?_
        · simp [-splice, f1, f2, f5, f24, b_b1]
          exact hJ _ _ _ ⟨by simp [f1], by simp [f2], by simp [f5], by simp [-splice, f1, f2, f5, f24, b_b1], b_b1, l_b1⟩
        clear f1 f2 f5 f24 b_b1 l_b1
        rintro t H n ⟨f1, f2, f5, f27, b_b1, l_b1⟩
        refine Stk.on ?_
        exact Stk.ln 0 (by decide) (hJ3 _ _ _ ⟨f1, f2, f5, f27.trans (congrArg (fun q => AV.sc (.bool q)) (by rw [hb3]; rfl)), b_b1, l_b1⟩)
      · rw [hb3] at f24
        refine Stk.run 3 (fun t H n => t 1 = .sc (.int .i64 v5) ∧ t 2 = .own b1 0 ∧ t 5 = .sc (.int .i64 v6) ∧ t 27 = .sc (.bool false) ∧ H b1 = some (.cells (c51 a0) 51) ∧ b1 < n) (fun J hJ => ?_) ?_
        · simp [-splice, f1, f2, f5, f24, b_b1]
          exact hJ _ _ _ ⟨by simp [f1], by simp [f2], by simp [f5], by simp [-splice, f1, f2, f5, f24, b_b1], b_b1, l_b1⟩
        clear f1 f2 f5 f24 b_b1 l_b1
        rintro t H n ⟨f1, f2, f5, f27, b_b1, l_b1⟩
        refine Stk.on ?_
        exact Stk.ln 0 (by decide) (hJ3 _ _ _ ⟨f1, f2, f5, f27.trans (congrArg (fun q => AV.sc (.bool q)) (by rw [hb3]; rfl)), b_b1, l_b1⟩)
    clear f1 f2 f5 f24 b_b1 l_b1
    rintro t H n ⟨f1, f2, f5, f27, b_b1, l_b1⟩
    refine Stk.on ?_
    refine Stk.cond ((decide (v6 < (a0.Datas.length : Int))) && (decide (0 ≤ v5))) (by exact f27) (fun hb9 => ?_) (fun hb9 => ?_)
    · have h := cT hb9 h
      refine Stk.sk ?_
      refine Stk.sq ?_
      refine Stk.bk ?_
      refine Stk.sq ?_
      refine Stk.rg ?_
      obtain ⟨x10, hx10, h⟩ := bnd h
      obtain ⟨i0x10, i1x10, i2x10, _⟩ := idx_ok hx10
      have ex10_2_9 : partOf T.T 9 (encs c32 a0.Datas) (v6.toNat * 4 + 2) = some (.sc (.string x10.Name)) := by
          have e0 := part_elem0 (e := c32) (z := 4) (T := T.T) (ty := 9) T.t9 (by decide) (by decide) hx10 2 (by decide)
          (try simp only [Nat.mul_one, Nat.add_zero] at e0)
          exact e0.trans (ld_32_2_9 _)
      refine Stk.run 12 (fun t H n => t 1 = .sc (.int .i64 (IntKind.i64.wrap ((IntKind.i64.wrap (v5 - 1)) - (if 1048576 < (x10.Name.size : Int) then 1048576 else (x10.Name.size : Int))))) ∧ t 2 = .own b1 0 ∧ t 5 = .sc (.int .i64 v6) ∧ H b1 = some (.cells (c51 a0) 51) ∧ b1 < n) (fun J hJ => ?_) ?_
      · simp [-splice, f1, f2, f5, f27, b_b1, ld_51_0_22, i0x10, i1x10, pd9, ex10_2_9]
        exact hJ _ _ _ ⟨by simp [-splice, f1, f2, f5, f27, b_b1, ld_51_0_22, i0x10, i1x10, pd9, ex10_2_9], by simp [f2], by simp [f5], b_b1, l_b1⟩
      clear f1 f2 f5 f27 b_b1 l_b1
      rintro t H n ⟨f1, f2, f5, b_b1, l_b1⟩
      refine Stk.on ?_
      refine Stk.sq ?_
      refine Stk.rg ?_
      refine Stk.run 1 (fun t H n => t 1 = .sc (.int .i64 (IntKind.i64.wrap ((IntKind.i64.wrap (v5 - 1)) - (if 1048576 < (x10.Name.size : Int) then 1048576 else (x10.Name.size : Int))))) ∧ t 2 = .own b1 0 ∧ t 5 = .sc (.int .i64 v6) ∧ t 6 = .sc (.int .i64 0) ∧ H b1 = some (.cells (c51 a0) 51) ∧ b1 < n) (fun J hJ => ?_) ?_
      · simp [-splice, f1, f2, f5, b_b1]
        exact hJ _ _ _ ⟨by simp [f1], by simp [f2], by simp [f5], by simp [-splice, f1, f2, f5, b_b1], b_b1, l_b1⟩
      clear f1 f2 f5 b_b1 l_b1
      rintro t H n ⟨f1, f2, f5, f6, b_b1, l_b1⟩
      refine Stk.on ?_
      obtain ⟨K4, hK4, h⟩ := jnd h
      refine Stk.jn (fun t H n => ∃ v11 : Int, K4 v11 = some r ∧ t 1 = .sc (.int .i64 v11) ∧ t 2 = .own b1 0 ∧ t 5 = .sc (.int .i64 v6) ∧ H b1 = some (.cells (c51 a0) 51) ∧ b1 < n) trivial (fun J4 hJ4 => ?_) ?_
      · skip
        refine Stk.bk ?_
        refine Stk.lo (fun μ t H n => ∃ v12 : Int, ∃ v13 : Int, R04_LightProg_L1 F a0 v6 K4 μ v12 v13 = some r ∧ t 1 = .sc (.int .i64 v12) ∧ t 2 = .own b1 0 ∧ t 5 = .sc (.int .i64 v6) ∧ t 6 = .sc (.int .i64 v13) ∧ H b1 = some (.cells (c51 a0) 51) ∧ b1 < n) F ⟨(IntKind.i64.wrap ((IntKind.i64.wrap (v5 - 1)) - (if 1048576 < (x10.Name.size : Int) then 1048576 else (x10.Name.size : Int)))), 0, h, f1, f2, f5, f6, b_b1, l_b1⟩ ?_
        clear h f1 f2 f5 f6 b_b1 l_b1
        rintro J5 hJ5 μ t H n ⟨v12, v13, h, f1, f2, f5, f6, b_b1, l_b1⟩
        cases μ with
        | zero => exact absurd h (by simp [R04_LightProg_L1])
        | succ μ =>
        rw [R04_LightProg_L1] at h
        refine Stk.sq ?_
        refine Stk.sq ?_
        refine Stk.rg ?_
        obtain ⟨x16, hx16, h⟩ := bnd h
        obtain ⟨i0x16, i1x16, i2x16, _⟩ := idx_ok hx16
        have ex16_3_30 : partOf T.T 30 (encs c32 a0.Datas) (v6.toNat * 4 + 3) = some (.ssl (encs c35 x16.Cons) x16.Cons.length false) := by
            have e0 := part_elem0 (e := c32) (z := 4) (T := T.T) (ty := 30) T.t30 (by decide) (by decide) hx16 3 (by decide)
            (try simp only [Nat.mul_one, Nat.add_zero] at e0)
            exact e0.trans (ld_32_3_30 _)
        refine Stk.run 10 (fun t H n => t 1 = .sc (.int .i64 v12) ∧ t 2 = .own b1 0 ∧ t 5 = .sc (.int .i64 v6) ∧ t 6 = .sc (.int .i64 v13) ∧ t 50 = .sc (.bool (decide (v13 < (x16.Cons.length : Int)))) ∧ H b1 = some (.cells (c51 a0) 51) ∧ b1 < n) (fun J hJ => ?_) ?_
        · simp [-splice, f1, f2, f5, f6, b_b1, ld_51_0_22, i0x16, i1x16, pd30, ex16_3_30]
          exact hJ _ _ _ ⟨by simp [f1], by simp [f2], by simp [f5], by simp [f6], by simp [-splice, f1, f2, f5, f6, b_b1, ld_51_0_22, i0x16, i1x16, pd30, ex16_3_30], b_b1, l_b1⟩
        clear f1 f2 f5 f6 b_b1 l_b1
        rintro t H n ⟨f1, f2, f5, f6, f50, b_b1, l_b1⟩
        refine Stk.jo 3 (fun t H n => t 1 = .sc (.int .i64 v12) ∧ t 2 = .own b1 0 ∧ t 5 = .sc (.int .i64 v6) ∧ t 6 = .sc (.int .i64 v13) ∧ t 53 = .sc (.bool ((decide (v13 < (x16.Cons.length : Int))) && (decide (0 ≤ v12)))) ∧ H b1 = some (.cells (c51 a0) 51) ∧ b1 < n) (fun J6 hJ6 => ?_) ?_
        · rcases Bool.eq_false_or_eq_true (decide (v13 < (x16.Cons.length : Int))) with hb6 | hb6
          · rw [hb6] at f50
            refine Stk.run 3 (fun t H n => t 1 = .sc (.int .i64 v12) ∧ t 2 = .own b1 0 ∧ t 5 = .sc (.int .i64 v6) ∧ t 6 = .sc (.int .i64 v13) ∧ t 53 = .sc (.bool (decide (0 ≤ v12))) ∧ H b1 = some (.cells (c51 a0) 51) ∧ b1 < n) (fun J hJ => ?_) ?_
            · simp [-splice, f1, f2, f5, f6, f50, b_b1]
              exact hJ _ _ _ ⟨by simp [f1], by simp [f2], by simp [f5], by simp [f6], by simp [-splice, f1, f2, f5, f6, f50, b_b1], b_b1, l_b1⟩
            clear f1 f2 f5 f6 f50 b_b1 l_b1
            rintro t H n ⟨f1, f2, f5, f6, f53, b_b1, l_b1⟩
            refine Stk.on ?_
            exact Stk.ln 0 (by decide) (hJ6 _ _ _ ⟨f1, f2, f5, f6, f53.trans (congrArg (fun q => AV.sc (.bool q)) (by rw [hb6]; rfl)), b_b1, l_b1⟩)
          · rw [hb6] at f50
            refine Stk.run 3 (fun t H n => t 1 = .sc (.int .i64 v12) ∧ t 2 = .own b1 0 ∧ t 5 = .sc (.int .i64 v6) ∧ t 6 = .sc (.int .i64 v13) ∧ t 53 = .sc (.bool false) ∧ H b1 = some (.cells (c51 a0) 51) ∧ b1 < n) (fun J hJ => ?_) ?_
            · simp [-splice, f1, f2, f5, f6, f50, b_b1]
              exact hJ _ _ _ ⟨by simp [f1], by simp [f2], by simp [f5], by simp [f6], by simp [-splice, f1, f2, f5, f6, f50, b_b1], b_b1, l_b1⟩
            clear f1 f2 f5 f6 f50 b_b1 l_b1
            rintro t H n ⟨f1, f2, f5, f6, f53, b_b1, l_b1⟩
            refine Stk.on ?_
            exact Stk.ln 0 (by decide) (hJ6 _ _ _ ⟨f1, f2, f5, f6, f53.trans (congrArg (fun q => AV.sc (.bool q)) (by rw [hb6]; rfl)), b_b1, l_b1⟩)
        clear f1 f2 f5 f6 f50 b_b1 l_b1
        rintro t H n ⟨f1, f2, f5, f6, f53, b_b1, l_b1⟩
        refine Stk.on ?_
        refine Stk.cond ((decide (v13 < (x16.Cons.length : Int))) && (decide (0 ≤ v12))) (by exact f53) (fun hb17 => ?_) (fun hb17 => ?_)
        · have h := cT hb17 h
          refine Stk.sk ?_
          refine Stk.sq ?_
          refine Stk.bk ?_
          obtain ⟨n0, hn0⟩ : ∃ m, m = n := ⟨n, rfl⟩
          have ln0 : n0 ≤ n := Nat.le_of_eq hn0
          refine Stk.rgD [.rd [], .rd [b1], .rd [], .rd [], .rd [], .rd [], .rd [], .rd [], .rd [], .rd [], .rd [], .rd [b1], .rd [], .rd [], .rd [], .rd [], .rd [], .rd [], .rd [], .rd [], .rd [], .rd [], .rd [], .rd []] none (by kernel_rfl) (by rfl) rfl (by simp [below, hn0, l_b1]) rfl ?_
          obtain ⟨x18, hx18, h⟩ := bnd h
          obtain ⟨i0x18, i1x18, i2x18, _⟩ := idx_ok hx18
          have ex18_3_30 : partOf T.T 30 (encs c32 a0.Datas) (v6.toNat * 4 + 3) = some (.ssl (encs c35 x18.Cons) x18.Cons.length false) := by
              have e0 := part_elem0 (e := c32) (z := 4) (T := T.T) (ty := 30) T.t30 (by decide) (by decide) hx18 3 (by decide)
              (try simp only [Nat.mul_one, Nat.add_zero] at e0)
              exact e0.trans (ld_32_3_30 _)
          obtain ⟨x19, hx19, h⟩ := bnd h
          obtain ⟨i0x19, i1x19, i2x19, _⟩ := idx_ok hx19
          have ex19_0_9 : partOf T.T 9 (encs c35 x18.Cons) (v13.toNat * 2) = some (.sc (.string x19.Name)) := by
              have e0 := part_elem0 (e := c35) (z := 2) (T := T.T) (ty := 9) T.t9 (by decide) (by decide) hx19 0 (by decide)
              (try simp only [Nat.mul_one, Nat.add_zero] at e0)
              exact e0.trans (ld_35_0_9 _)
          have ex18_3_30 : partOf T.T 30 (encs c32 a0.Datas) (v6.toNat * 4 + 3) = some (.ssl (encs c35 x18.Cons) x18.Cons.length false) := by
              have e0 := part_elem0 (e := c32) (z := 4) (T := T.T) (ty := 30) T.t30 (by decide) (by decide) hx18 3 (by decide)
              (try simp only [Nat.mul_one, Nat.add_zero] at e0)
              exact e0.trans (ld_32_3_30 _)
          have ex19_1_33 : partOf T.T 33 (encs c35 x18.Cons) (v13.toNat * 2 + 1) = some (.ssl (encs c40 x19.Fields) x19.Fields.length false) := by
              have e0 := part_elem0 (e := c35) (z := 2) (T := T.T) (ty := 33) T.t33 (by decide) (by decide) hx19 1 (by decide)
              (try simp only [Nat.mul_one, Nat.add_zero] at e0)
              exact e0.trans (ld_35_1_33 _)
          refine Stk.runD 20 (fun t H n => t 1 = .sc (.int .i64 v12) ∧ t 2 = .own b1 0 ∧ t 5 = .sc (.int .i64 v6) ∧ t 6 = .sc (.int .i64 v13) ∧ t 65 = .sc (.string x19.Name) ∧ t 75 = .ssl (encs c40 x19.Fields) x19.Fields.length false ∧ H b1 = some (.cells (c51 a0) 51) ∧ b1 < n ∧ n0 ≤ n) (fun J hJ => ?_) ?_
          · simp [-splice, f1, f2, f5, f6, f53, b_b1, ld_51_0_22, i0x18, i1x18, pd30, ex18_3_30, i0x19, i1x19, pd9, ex19_0_9, pd33, ex19_1_33]
            exact hJ _ _ _ ⟨by simp [f1], by simp [f2], by simp [f5], by simp [f6], by simp [-splice, f1, f2, f5, f6, f53, b_b1, ld_51_0_22, i0x18, i1x18, pd30, ex18_3_30, i0x19, i1x19, pd9, ex19_0_9, pd33, ex19_1_33], by simp [-splice, f1, f2, f5, f6, f53, b_b1, ld_51_0_22, i0x18, i1x18, pd30, ex18_3_30, i0x19, i1x19, pd9, ex19_0_9, pd33, ex19_1_33], b_b1, l_b1, ln0⟩
          clear f1 f2 f5 f6 f53 b_b1 l_b1 ln0
          rintro t H n ⟨f1, f2, f5, f6, f65, f75, b_b1, l_b1, ln0⟩
          refine Stk.ovD rfl (by simp [f1, f2, f5, f6, f65, f75]) rfl (vop_build T.t40 rfl rfl (cs := c40 (api_Type.mk 0 ⟨#[]⟩ [])) (cs' := c40 (api_Type.mk 0 x19.Name x19.Fields)) rfl (.cons f65 rfl rfl rfl rfl (rfl) (by rw [len40]; decide) (st_40_1_9 _ _) (.cons f75 rfl rfl rfl rfl (rfl) (by rw [len40]; decide) (st_40_2_33 _ _) (.nil)))) (by simp [f1, f2, f5, f6, f65, f75]) rfl (fun t' ht' => ?_)
          refine Stk.gen (fun t H n => t 1 = .sc (.int .i64 v12) ∧ t 2 = .own b1 0 ∧ t 5 = .sc (.int .i64 v6) ∧ t 6 = .sc (.int .i64 v13) ∧ t 76 = .agg (c40 (api_Type.mk 0 x19.Name x19.Fields)) ∧ H b1 = some (.cells (c51 a0) 51) ∧ b1 < n ∧ n0 ≤ n) ⟨by simp [ht', f1], by simp [ht', f2], by simp [ht', f5], by simp [ht', f6], by simp [ht'], b_b1, l_b1, ln0⟩ ?_
          clear f1 f2 f5 f6 f65 f75 b_b1 l_b1 ln0 ht' t'
          rintro t H n ⟨f1, f2, f5, f6, f76, b_b1, l_b1, ln0⟩
          refine Stk.runD 1 (fun t H n => t 2 = .own b1 0 ∧ t 5 = .sc (.int .i64 v6) ∧ t 6 = .sc (.int .i64 v13) ∧ t 76 = .agg (c40 (api_Type.mk 0 x19.Name x19.Fields)) ∧ t 77 = .sc (.int .i64 v12) ∧ H b1 = some (.cells (c51 a0) 51) ∧ b1 < n ∧ n0 ≤ n) (fun J hJ => ?_) ?_
          · simp [-splice, f1, f2, f5, f6, f76, b_b1]
            exact hJ _ _ _ ⟨by simp [f2], by simp [f5], by simp [f6], by simp [f76], by simp [-splice, f1, f2, f5, f6, f76, b_b1], b_b1, l_b1, ln0⟩
          clear f1 f2 f5 f6 f76 b_b1 l_b1 ln0
          rintro t H n ⟨f2, f5, f6, f76, f77, b_b1, l_b1, ln0⟩
          obtain ⟨x20, hx20, h⟩ := bnd h
          refine Stk.cvD (g := 14) (args := [.agg (c40 (api_Type.mk 0 x19.Name x19.Fields)), .sc (.int .i64 v12)]) (args' := [.agg (c40 (api_Type.mk 0 x19.Name x19.Fields)), .sc (.int .i64 v12)]) (v := .sc (.int .i64 x20)) [] (ok_R04_LightType F _ _ _ hx20) rfl (by simp) rfl (by simp [f2, f5, f6, f76, f77]) rfl rfl (by simp [f2, f5, f6, f76, f77]) (.cons (.free (fr40 _)) (.cons (.free (rfl)) (.nil))) (.inl ⟨rfl, rfl⟩) (fun t' ht' => ?_)
          refine Stk.gen (fun t H n => t 2 = .own b1 0 ∧ t 5 = .sc (.int .i64 v6) ∧ t 6 = .sc (.int .i64 v13) ∧ t 78 = .sc (.int .i64 x20) ∧ H b1 = some (.cells (c51 a0) 51) ∧ b1 < n ∧ n0 ≤ n) ⟨by simp [ht', f2], by simp [ht', f5], by simp [ht', f6], by simp [ht'], b_b1, l_b1, ln0⟩ ?_
          clear f2 f5 f6 f76 f77 b_b1 l_b1 ln0 ht' t'
          rintro t H n ⟨f2, f5, f6, f78, b_b1, l_b1, ln0⟩
          refine Stk.runD 1 (fun t H n => t 1 = .sc (.int .i64 x20) ∧ t 2 = .own b1 0 ∧ t 5 = .sc (.int .i64 v6) ∧ t 6 = .sc (.int .i64 v13) ∧ H b1 = some (.cells (c51 a0) 51) ∧ b1 < n ∧ n0 ≤ n) (fun J hJ => ?_) ?_
          · simp [-splice, f2, f5, f6, f78, b_b1]
            exact hJ _ _ _ ⟨by simp [-splice, f2, f5, f6, f78, b_b1], by simp [f2], by simp [f5], by simp [f6], b_b1, l_b1, ln0⟩
          clear f2 f5 f6 f78 b_b1 l_b1 ln0
          rintro t H n ⟨f1, f2, f5, f6, b_b1, l_b1, ln0⟩
          refine Stk.onD ?_
          refine Stk.bn ?_
          refine Stk.rg ?_
          refine Stk.run 3 (fun t H n => t 1 = .sc (.int .i64 x20) ∧ t 2 = .own b1 0 ∧ t 5 = .sc (.int .i64 v6) ∧ t 6 = .sc (.int .i64 (IntKind.i64.wrap (v13 + 1))) ∧ H b1 = some (.cells (c51 a0) 51) ∧ b1 < n) (fun J hJ => ?_) ?_
          · simp [-splice, f1, f2, f5, f6, b_b1]
            exact hJ _ _ _ ⟨by simp [f1], by simp [f2], by simp [f5], by simp [-splice, f1, f2, f5, f6, b_b1], b_b1, l_b1⟩
          clear f1 f2 f5 f6 b_b1 l_b1 ln0
          rintro t H n ⟨f1, f2, f5, f6, b_b1, l_b1⟩
          refine Stk.on ?_
          exact Stk.ln μ (Nat.lt_succ_self _) (hJ5 _ _ _ _ ⟨x20, (IntKind.i64.wrap (v13 + 1)), h, f1, f2, f5, f6, b_b1, l_b1⟩)
        · have h := cF hb17 h
          refine Stk.ex rfl ?_
          exact Stk.ln 0 (by decide) (hJ4 _ _ _ ⟨v12, h, f1, f2, f5, b_b1, l_b1⟩)
      clear h f1 f2 f5 f6 b_b1 l_b1
      rintro t H n ⟨v11, h, f1, f2, f5, b_b1, l_b1⟩
      subst hK4
      refine Stk.bn ?_
      refine Stk.rg ?_
      refine Stk.run 3 (fun t H n => t 1 = .sc (.int .i64 v11) ∧ t 2 = .own b1 0 ∧ t 5 = .sc (.int .i64 (IntKind.i64.wrap (v6 + 1))) ∧ H b1 = some (.cells (c51 a0) 51) ∧ b1 < n) (fun J hJ => ?_) ?_
      · simp [-splice, f1, f2, f5, b_b1]
        exact hJ _ _ _ ⟨by simp [f1], by simp [f2], by simp [-splice, f1, f2, f5, b_b1], b_b1, l_b1⟩
      clear f1 f2 f5 b_b1 l_b1
      rintro t H n ⟨f1, f2, f5, b_b1, l_b1⟩
      refine Stk.on ?_
      exact Stk.ln μ (Nat.lt_succ_self _) (hJ2 _ _ _ _ ⟨v11, (IntKind.i64.wrap (v6 + 1)), h, f1, f2, f5, b_b1, l_b1⟩)
    · have h := cF hb9 h
      refine Stk.ex rfl ?_
      exact Stk.ln 0 (by decide) (hJ1 _ _ _ ⟨v5, h, f1, f2, b_b1, l_b1⟩)
  clear h f1 f2 f5 b_b1 l_b1
  rintro t H n ⟨v4, h, f1, f2, b_b1, l_b1⟩
  subst hK1
  refine Stk.sq ?_
  refine Stk.sq ?_
  refine Stk.rg ?_
  refine Stk.run 1 (fun t H n => t 1 = .sc (.int .i64 v4) ∧ t 2 = .own b1 0 ∧ t 7 = .sc (.int .i64 0) ∧ H b1 = some (.cells (c51 a0) 51) ∧ b1 < n) (fun J hJ => ?_) ?_
  · simp [-splice, f1, f2, b_b1]
    exact hJ _ _ _ ⟨by simp [f1], by simp [f2], by simp [-splice, f1, f2, b_b1], b_b1, l_b1⟩
  clear f1 f2 b_b1 l_b1
  rintro t H n ⟨f1, f2, f7, b_b1, l_b1⟩
  refine Stk.on ?_
  obtain ⟨K7, hK7, h⟩ := jnd h
  refine Stk.jn (fun t H n => ∃ v21 : Int, K7 v21 = some r ∧ t 1 = .sc (.int .i64 v21) ∧ t 2 = .own b1 0 ∧ H b1 = some (.cells (c51 a0) 51) ∧ b1 < n) trivial (fun J7 hJ7 => ?_) ?_
  · skip
    refine Stk.bk ?_
    refine Stk.lo (fun μ t H n => ∃ v22 : Int, ∃ v23 : Int, R04_LightProg_L2 F a0 K7 μ v22 v23 = some r ∧ t 1 = .sc (.int .i64 v22) ∧ t 2 = .own b1 0 ∧ t 7 = .sc (.int .i64 v23) ∧ H b1 = some (.cells (c51 a0) 51) ∧ b1 < n) F ⟨v4, 0, h, f1, f2, f7, b_b1, l_b1⟩ ?_
    clear h f1 f2 f7 b_b1 l_b1
    rintro J8 hJ8 μ t H n ⟨v22, v23, h, f1, f2, f7, b_b1, l_b1⟩
    cases μ with
    | zero => exact absurd h (by simp [R04_LightProg_L2])
    | succ μ =>
    rw [R04_LightProg_L2] at h
    refine Stk.sq ?_
    refine Stk.sq ?_
    refine Stk.rg ?_
    refine Stk.run 6 (fun t H n => t 1 = .sc (.int .i64 v22) ∧ t 2 = .own b1 0 ∧ t 7 = .sc (.int .i64 v23) ∧ t 84 = .sc (.bool (decide (v23 < (a0.Funs.length : Int)))) ∧ H b1 = some (.cells (c51 a0) 51) ∧ b1 < n) (fun J hJ => ?_) ?_
    · simp [-splice, f1, f2, f7, b_b1, ld_51_1_43]
      exact hJ _ _ _ ⟨by simp [f1], by simp [f2], by simp [f7], by simp [-splice, f1, f2, f7, b_b1, ld_51_1_43], b_b1, l_b1⟩
    clear f1 f2 f7 b_b1 l_b1
    rintro t H n ⟨f1, f2, f7, f84, b_b1, l_b1⟩
    refine Stk.jo 3 (fun t H n => t 1 = .sc (.int .i64 v22) ∧ t 2 = .own b1 0 ∧ t 7 = .sc (.int .i64 v23) ∧ t 87 = .sc (.bool ((decide (v23 < (a0.Funs.length : Int))) && (decide (0 ≤ v22)))) ∧ H b1 = some (.cells (c51 a0) 51) ∧ b1 < n) (fun J9 hJ9 => ?_) ?_
    · rcases Bool.eq_false_or_eq_true (decide (v23 < (a0.Funs.length : Int))) with hb9 | hb9
      · rw [hb9] at f84
        refine Stk.run 3 (fun t H n => t 1 = .sc (.int .i64 v22) ∧ t 2 = .own b1 0 ∧ t 7 = .sc (.int .i64 v23) ∧ t 87 = .sc (.bool (decide (0 ≤ v22))) ∧ H b1 = some (.cells (c51 a0) 51) ∧ b1 < n) (fun J hJ => ?_) ?_
        · simp [-splice, f1, f2, f7, f84, b_b1]
          exact hJ _ _ _ ⟨by simp [f1], by simp [f2], by simp [f7], by simp [-splice, f1, f2, f7, f84, b_b1], b_b1, l_b1⟩
        clear f1 f2 f7 f84 b_b1 l_b1
        rintro t H n ⟨f1, f2, f7, f87, b_b1, l_b1⟩
        refine Stk.on ?_
        exact Stk.ln 0 (by decide) (hJ9 _ _ _ ⟨f1, f2, f7, f87.trans (congrArg (fun q => AV.sc (.bool q)) (by rw [hb9]; rfl)), b_b1, l_b1⟩)
      · rw [hb9] at f84
        refine Stk.run 3 (fun t H n => t 1 = .sc (.int .i64 v22) ∧ t 2 = .own b1 0 ∧ t 7 = .sc (.int .i64 v23) ∧ t 87 = .sc (.bool false) ∧ H b1 = some (.cells (c51 a0) 51) ∧ b1 < n) (fun J hJ => ?_) ?_
        · simp [-splice, f1, f2, f7, f84, b_b1]
          exact hJ _ _ _ ⟨by simp [f1], by simp [f2], by simp [f7], by simp [-splice, f1, f2, f7, f84, b_b1], b_b1, l_b1⟩
        clear f1 f2 f7 f84 b_b1 l_b1
        rintro t H n ⟨f1, f2, f7, f87, b_b1, l_b1⟩
        refine Stk.on ?_
        exact Stk.ln 0 (by decide) (hJ9 _ _ _ ⟨f1, f2, f7, f87.trans (congrArg (fun q => AV.sc (.bool q)) (by rw [hb9]; rfl)), b_b1, l_b1⟩)
    clear f1 f2 f7 f84 b_b1 l_b1
    rintro t H n ⟨f1, f2, f7, f87, b_b1, l_b1⟩
    refine Stk.on ?_
    refine Stk.cond ((decide (v23 < (a0.Funs.length : Int))) && (decide (0 ≤ v22))) (by exact f87) (fun hb26 => ?_) (fun hb26 => ?_)
    · have h := cT hb26 h
      refine Stk.sk ?_
      refine Stk.sq ?_
      refine Stk.bk ?_
      refine Stk.sq ?_
      refine Stk.rg ?_
      obtain ⟨x27, hx27, h⟩ := bnd h
      obtain ⟨i0x27, i1x27, i2x27, _⟩ := idx_ok hx27
      have ex27_0_75 : partOf T.T 75 (encs c75 a0.Funs) (v23.toNat * 15) = some (.agg (c75 x27)) := by
          have e0 := part_elem0 (e := c75) (z := 15) (T := T.T) (ty := 75) T.t75 (by decide) (by decide) hx27 0 (by decide)
          (try simp only [Nat.mul_one, Nat.add_zero] at e0)
          exact e0.trans (ld_75_0_75 _)
      refine Stk.run 5 (fun t H n => t 1 = .sc (.int .i64 v22) ∧ t 2 = .own b1 0 ∧ t 7 = .sc (.int .i64 v23) ∧ t 94 = .agg (c75 x27) ∧ H b1 = some (.cells (c51 a0) 51) ∧ b1 < n) (fun J hJ => ?_) ?_
      · simp [-splice, f1, f2, f7, f87, b_b1, ld_51_1_43, i0x27, i1x27, pd75, ex27_0_75]
        exact hJ _ _ _ ⟨by simp [f1], by simp [f2], by simp [f7], by simp [-splice, f1, f2, f7, f87, b_b1, ld_51_1_43, i0x27, i1x27, pd75, ex27_0_75], b_b1, l_b1⟩
      clear f1 f2 f7 f87 b_b1 l_b1
      rintro t H n ⟨f1, f2, f7, f94, b_b1, l_b1⟩
      refine Stk.oz T.t75 (cs := c75 (api_Fun.mk (api_Pos.mk 0 0) ⟨#[]⟩ [] (api_Type.mk 0 ⟨#[]⟩ []) (api_Expr.mk 0 (api_Pos.mk 0 0) 0 [] ⟨#[]⟩ [] []))) (by rfl) rfl (by simp [f1, f2, f7, f94]) rfl (fun t' ht' => ?_)
      refine Stk.gen (fun t H n => ∃ b28, t 1 = .sc (.int .i64 v22) ∧ t 2 = .own b1 0 ∧ t 7 = .sc (.int .i64 v23) ∧ t 8 = .own b28 0 ∧ t 94 = .agg (c75 x27) ∧ H b1 = some (.cells (c51 a0) 51) ∧ b1 < n ∧ H b28 = some (.cells (c75 (api_Fun.mk (api_Pos.mk 0 0) ⟨#[]⟩ [] (api_Type.mk 0 ⟨#[]⟩ []) (api_Expr.mk 0 (api_Pos.mk 0 0) 0 [] ⟨#[]⟩ [] []))) 75) ∧ b28 < n ∧ b1 ≠ b28) ⟨n, by simp [ht', f1], by simp [ht', f2], by simp [ht', f7], by simp [ht'], by simp [ht', f94], (upd_ne _ _ (Nat.ne_of_lt l_b1)).trans b_b1, Nat.lt_succ_of_lt l_b1, upd_same _ _ _, Nat.lt_succ_self _, Nat.ne_of_lt l_b1⟩ ?_
      clear f1 f2 f7 f94 b_b1 l_b1 ht' t'
      rintro t H n ⟨b28, f1, f2, f7, f8, f94, b_b1, l_b1, b_b28, l_b28, d_b1_b28⟩
      refine Stk.om (mop_store (z := 15) rfl f8 b_b28 f94 (len75 _) (by rw [len75]; decide) (ok75 _) (st_75_0_75 _ _)) (by simp [f1, f2, f7, f8, f94]) rfl (fun t' ht' => ?_)
      refine Stk.gen (fun t H n => t 1 = .sc (.int .i64 v22) ∧ t 2 = .own b1 0 ∧ t 7 = .sc (.int .i64 v23) ∧ t 8 = .own b28 0 ∧ H b1 = some (.cells (c51 a0) 51) ∧ b1 < n ∧ H b28 = some (.cells (c75 x27) 75) ∧ b28 < n ∧ b1 ≠ b28) ⟨by simp [ht', f1], by simp [ht', f2], by simp [ht', f7], by simp [ht', f8], (upd_ne _ _ d_b1_b28).trans b_b1, l_b1, upd_same _ _ _, l_b28, d_b1_b28⟩ ?_
      clear f1 f2 f7 f8 f94 b_b1 l_b1 b_b28 l_b28 d_b1_b28 ht' t'
      rintro t H n ⟨f1, f2, f7, f8, b_b1, l_b1, b_b28, l_b28, d_b1_b28⟩
      refine Stk.on ?_
      refine Stk.sq ?_
      obtain ⟨n0, hn0⟩ : ∃ m, m = n := ⟨n, rfl⟩
      have ln0 : n0 ≤ n := Nat.le_of_eq hn0
      refine Stk.rgD [.rd [], .rd [b28], .rd [], .rd [b28], .rd [], .rd [], .rd [], .rd [b28], .rd [], .rd [], .rd [], .rd [], .rd [], .rd []] none (by kernel_rfl) (by rfl) rfl (by simp [below, hn0, l_b1, hn0, l_b28]) rfl ?_
      refine Stk.runD 11 (fun t H n => t 2 = .own b1 0 ∧ t 7 = .sc (.int .i64 v23) ∧ t 8 = .own b28 0 ∧ t 96 = .agg (c48 x27.Body) ∧ t 98 = .agg (c40 x27.Result) ∧ t 105 = .sc (.int .i64 (IntKind.i64.wrap ((IntKind.i64.wrap (v22 - 1)) - (if 1048576 < (x27.Name.size : Int) then 1048576 else (x27.Name.size : Int))))) ∧ H b1 = some (.cells (c51 a0) 51) ∧ b1 < n ∧ H b28 = some (.cells (c75 x27) 75) ∧ b28 < n ∧ b1 ≠ b28 ∧ n0 ≤ n) (fun J hJ => ?_) ?_
      · simp [-splice, f1, f2, f7, f8, b_b1, b_b28, ld_75_7_48, ld_75_4_40, ld_75_2_9]
        exact hJ _ _ _ ⟨by simp [f2], by simp [f7], by simp [f8], by simp [-splice, f1, f2, f7, f8, b_b1, b_b28, ld_75_7_48, ld_75_4_40, ld_75_2_9], by simp [-splice, f1, f2, f7, f8, b_b1, b_b28, ld_75_7_48, ld_75_4_40, ld_75_2_9], by simp [-splice, f1, f2, f7, f8, b_b1, b_b28, ld_75_7_48, ld_75_4_40, ld_75_2_9], b_b1, l_b1, b_b28, l_b28, d_b1_b28, ln0⟩
      clear f1 f2 f7 f8 b_b1 l_b1 b_b28 l_b28 d_b1_b28 ln0
      rintro t H n ⟨f2, f7, f8, f96, f98, f105, b_b1, l_b1, b_b28, l_b28, d_b1_b28, ln0⟩
      obtain ⟨x29, hx29, h⟩ := bnd h
      refine Stk.cvD (g := 14) (args := [.agg (c40 x27.Result), .sc (.int .i64 (IntKind.i64.wrap ((IntKind.i64.wrap (v22 - 1)) - (if 1048576 < (x27.Name.size : Int) then 1048576 else (x27.Name.size : Int)))))]) (args' := [.agg (c40 x27.Result), .sc (.int .i64 (IntKind.i64.wrap ((IntKind.i64.wrap (v22 - 1)) - (if 1048576 < (x27.Name.size : Int) then 1048576 else (x27.Name.size : Int)))))]) (v := .sc (.int .i64 x29)) [] (ok_R04_LightType F _ _ _ hx29) rfl (by simp) rfl (by simp [f2, f7, f8, f96, f98, f105]) rfl rfl (by simp [f2, f7, f8, f96, f98, f105]) (.cons (.free (fr40 _)) (.cons (.free (rfl)) (.nil))) (.inl ⟨rfl, rfl⟩) (fun t' ht' => ?_)
      refine Stk.gen (fun t H n => t 2 = .own b1 0 ∧ t 7 = .sc (.int .i64 v23) ∧ t 8 = .own b28 0 ∧ t 96 = .agg (c48 x27.Body) ∧ t 106 = .sc (.int .i64 x29) ∧ H b1 = some (.cells (c51 a0) 51) ∧ b1 < n ∧ H b28 = some (.cells (c75 x27) 75) ∧ b28 < n ∧ b1 ≠ b28 ∧ n0 ≤ n) ⟨by simp [ht', f2], by simp [ht', f7], by simp [ht', f8], by simp [ht', f96], by simp [ht'], b_b1, l_b1, b_b28, l_b28, d_b1_b28, ln0⟩ ?_
      clear f2 f7 f8 f96 f98 f105 b_b1 l_b1 b_b28 l_b28 d_b1_b28 ln0 ht' t'
      rintro t H n ⟨f2, f7, f8, f96, f106, b_b1, l_b1, b_b28, l_b28, d_b1_b28, ln0⟩
      obtain ⟨x30, hx30, h⟩ := bnd h
      refine Stk.cvD (g := 32) (args := [.agg (c48 x27.Body), .sc (.int .i64 x29)]) (args' := [.agg (c48 x27.Body), .sc (.int .i64 x29)]) (v := .sc (.int .i64 x30)) [] (ok_R04_Light F _ _ _ hx30) rfl (by simp) rfl (by simp [f2, f7, f8, f96, f106]) rfl rfl (by simp [f2, f7, f8, f96, f106]) (.cons (.free (fr48 _)) (.cons (.free (rfl)) (.nil))) (.inl ⟨rfl, rfl⟩) (fun t' ht' => ?_)
      refine Stk.gen (fun t H n => t 2 = .own b1 0 ∧ t 7 = .sc (.int .i64 v23) ∧ t 8 = .own b28 0 ∧ t 107 = .sc (.int .i64 x30) ∧ H b1 = some (.cells (c51 a0) 51) ∧ b1 < n ∧ H b28 = some (.cells (c75 x27) 75) ∧ b28 < n ∧ b1 ≠ b28 ∧ n0 ≤ n) ⟨by simp [ht', f2], by simp [ht', f7], by simp [ht', f8], by simp [ht'], b_b1, l_b1, b_b28, l_b28, d_b1_b28, ln0⟩ ?_
      clear f2 f7 f8 f96 f106 b_b1 l_b1 b_b28 l_b28 d_b1_b28 ln0 ht' t'
      rintro t H n ⟨f2, f7, f8, f107, b_b1, l_b1, b_b28, l_b28, d_b1_b28, ln0⟩
      refine Stk.runD 1 (fun t H n => t 1 = .sc (.int .i64 x30) ∧ t 2 = .own b1 0 ∧ t 7 = .sc (.int .i64 v23) ∧ t 8 = .own b28 0 ∧ H b1 = some (.cells (c51 a0) 51) ∧ b1 < n ∧ H b28 = some (.cells (c75 x27) 75) ∧ b28 < n ∧ b1 ≠ b28 ∧ n0 ≤ n) (fun J hJ => ?_) ?_
      · simp [-splice, f2, f7, f8, f107, b_b1, b_b28]
        exact hJ _ _ _ ⟨by simp [-splice, f2, f7, f8, f107, b_b1, b_b28], by simp [f2], by simp [f7], by simp [f8], b_b1, l_b1, b_b28, l_b28, d_b1_b28, ln0⟩
      clear f2 f7 f8 f107 b_b1 l_b1 b_b28 l_b28 d_b1_b28 ln0
      rintro t H n ⟨f1, f2, f7, f8, b_b1, l_b1, b_b28, l_b28, d_b1_b28, ln0⟩
      refine Stk.onD ?_
      refine Stk.sq ?_
      refine Stk.rg ?_
      refine Stk.run 1 (fun t H n => t 1 = .sc (.int .i64 x30) ∧ t 2 = .own b1 0 ∧ t 7 = .sc (.int .i64 v23) ∧ t 8 = .own b28 0 ∧ t 9 = .sc (.int .i64 0) ∧ H b1 = some (.cells (c51 a0) 51) ∧ b1 < n ∧ H b28 = some (.cells (c75 x27) 75) ∧ b28 < n ∧ b1 ≠ b28) (fun J hJ => ?_) ?_
      · simp [-splice, f1, f2, f7, f8, b_b1, b_b28]
        exact hJ _ _ _ ⟨by simp [f1], by simp [f2], by simp [f7], by simp [f8], by simp [-splice, f1, f2, f7, f8, b_b1, b_b28], b_b1, l_b1, b_b28, l_b28, d_b1_b28⟩
      clear f1 f2 f7 f8 b_b1 l_b1 b_b28 l_b28 d_b1_b28 ln0
      rintro t H n ⟨f1, f2, f7, f8, f9, b_b1, l_b1, b_b28, l_b28, d_b1_b28⟩
      refine Stk.on ?_
      obtain ⟨K10, hK10, h⟩ := jnd h
      refine Stk.jn (fun t H n => ∃ v31 : Int, K10 v31 = some r ∧ t 1 = .sc (.int .i64 v31) ∧ t 2 = .own b1 0 ∧ t 7 = .sc (.int .i64 v23) ∧ H b1 = some (.cells (c51 a0) 51) ∧ b1 < n) trivial (fun J10 hJ10 => ?_) ?_
      · skip
        refine Stk.bk ?_
        refine Stk.lo (fun μ t H n => ∃ v32 : Int, ∃ v33 : Int, R04_LightProg_L3 F x27 K10 μ v32 v33 = some r ∧ t 1 = .sc (.int .i64 v32) ∧ t 2 = .own b1 0 ∧ t 7 = .sc (.int .i64 v23) ∧ t 8 = .own b28 0 ∧ t 9 = .sc (.int .i64 v33) ∧ H b1 = some (.cells (c51 a0) 51) ∧ b1 < n ∧ H b28 = some (.cells (c75 x27) 75) ∧ b28 < n ∧ b1 ≠ b28) F ⟨x30, 0, h, f1, f2, f7, f8, f9, b_b1, l_b1, b_b28, l_b28, d_b1_b28⟩ ?_
        clear h f1 f2 f7 f8 f9 b_b1 l_b1 b_b28 l_b28 d_b1_b28
        rintro J11 hJ11 μ t H n ⟨v32, v33, h, f1, f2, f7, f8, f9, b_b1, l_b1, b_b28, l_b28, d_b1_b28⟩
        cases μ with
        | zero => exact absurd h (by simp [R04_LightProg_L3])
        | succ μ =>
        rw [R04_LightProg_L3] at h
        refine Stk.sq ?_
        refine Stk.sq ?_
        refine Stk.rg ?_
        refine Stk.run 6 (fun t H n => t 1 = .sc (.int .i64 v32) ∧ t 2 = .own b1 0 ∧ t 7 = .sc (.int .i64 v23) ∧ t 8 = .own b28 0 ∧ t 9 = .sc (.int .i64 v33) ∧ t 113 = .sc (.bool (decide (v33 < (x27.Params.length : Int)))) ∧ H b1 = some (.cells (c51 a0) 51) ∧ b1 < n ∧ H b28 = some (.cells (c75 x27) 75) ∧ b28 < n ∧ b1 ≠ b28) (fun J hJ => ?_) ?_
        · simp [-splice, f1, f2, f7, f8, f9, b_b1, b_b28, ld_75_3_73]
          exact hJ _ _ _ ⟨by simp [f1], by simp [f2], by simp [f7], by simp [f8], by simp [f9], by simp [-splice, f1, f2, f7, f8, f9, b_b1, b_b28, ld_75_3_73], b_b1, l_b1, b_b28, l_b28, d_b1_b28⟩
        clear f1 f2 f7 f8 f9 b_b1 l_b1 b_b28 l_b28 d_b1_b28
        rintro t H n ⟨f1, f2, f7, f8, f9, f113, b_b1, l_b1, b_b28, l_b28, d_b1_b28⟩
        refine Stk.jo 3 (fun t H n => t 1 = .sc (.int .i64 v32) ∧ t 2 = .own b1 0 ∧ t 7 = .sc (.int .i64 v23) ∧ t 8 = .own b28 0 ∧ t 9 = .sc (.int .i64 v33) ∧ t 116 = .sc (.bool ((decide (v33 < (x27.Params.length : Int))) && (decide (0 ≤ v32)))) ∧ H b1 = some (.cells (c51 a0) 51) ∧ b1 < n ∧ H b28 = some (.cells (c75 x27) 75) ∧ b28 < n ∧ b1 ≠ b28) (fun J12 hJ12 => ?_) ?_
        · rcases Bool.eq_false_or_eq_true (decide (v33 < (x27.Params.length : Int))) with hb12 | hb12
          · rw [hb12] at f113
            refine Stk.run 3 (fun t H n => t 1 = .sc (.int .i64 v32) ∧ t 2 = .own b1 0 ∧ t 7 = .sc (.int .i64 v23) ∧ t 8 = .own b28 0 ∧ t 9 = .sc (.int .i64 v33) ∧ t 116 = .sc (.bool (decide (0 ≤ v32))) ∧ H b1 = some (.cells (c51 a0) 51) ∧ b1 < n ∧ H b28 = some (.cells (c75 x27) 75) ∧ b28 < n ∧ b1 ≠ b28) (fun J hJ => ?_) ?_
            · simp [-splice, f1, f2, f7, f8, f9, f113, b_b1, b_b28]
              exact hJ _ _ _ ⟨by simp [f1], by simp [f2], by simp [f7], by simp [f8], by simp [f9], by simp [-splice, f1, f2, f7, f8, f9, f113, b_b1, b_b28], b_b1, l_b1, b_b28, l_b28, d_b1_b28⟩
            clear f1 f2 f7 f8 f9 f113 b_b1 l_b1 b_b28 l_b28 d_b1_b28
            rintro t H n ⟨f1, f2, f7, f8, f9, f116, b_b1, l_b1, b_b28, l_b28, d_b1_b28⟩
            refine Stk.on ?_
            exact Stk.ln 0 (by decide) (hJ12 _ _ _ ⟨f1, f2, f7, f8, f9, f116.trans (congrArg (fun q => AV.sc (.bool q)) (by rw [hb12]; rfl)), b_b1, l_b1, b_b28, l_b28, d_b1_b28⟩)
          · rw [hb12] at f113
            refine Stk.run 3 (fun t H n => t 1 = .sc (.int .i64 v32) ∧ t 2 = .own b1 0 ∧ t 7 = .sc (.int .i64 v23) ∧ t 8 = .own b28 0 ∧ t 9 = .sc (.int .i64 v33) ∧ t 116 = .sc (.bool false) ∧ H b1 = some (.cells (c51 a0) 51) ∧ b1 < n ∧ H b28 = some (.cells (c75 x27) 75) ∧ b28 < n ∧ b1 ≠ b28) (fun J hJ => ?_) ?_
            · simp [-splice, f1, f2, f7, f8, f9, f113, b_b1, b_b28]
              exact hJ _ _ _ ⟨by simp [f1], by simp [f2], by simp [f7], by simp [f8], by simp [f9], by simp [-splice, f1, f2, f7, f8, f9, f113, b_b1, b_b28], b_b1, l_b1, b_b28, l_b28, d_b1_b28⟩
            clear f1 f2 f7 f8 f9 f113 b_b1 l_b1 b_b28 l_b28 d_b1_b28
            rintro t H n ⟨f1, f2, f7, f8, f9, f116, b_b1, l_b1, b_b28, l_b28, d_b1_b28⟩
            refine Stk.on ?_
            exact Stk.ln 0 (by decide) (hJ12 _ _ _ ⟨f1, f2, f7, f8, f9, f116.trans (congrArg (fun q => AV.sc (.bool q)) (by rw [hb12]; rfl)), b_b1, l_b1, b_b28, l_b28, d_b1_b28⟩)
        clear f1 f2 f7 f8 f9 f113 b_b1 l_b1 b_b28 l_b28 d_b1_b28
        rintro t H n ⟨f1, f2, f7, f8, f9, f116, b_b1, l_b1, b_b28, l_b28, d_b1_b28⟩
        refine Stk.on ?_
        refine Stk.cond ((decide (v33 < (x27.Params.length : Int))) && (decide (0 ≤ v32))) (by exact f116) (fun hb36 => ?_) (fun hb36 => ?_)
        · have h := cT hb36 h
          refine Stk.sk ?_
          refine Stk.sq ?_
          refine Stk.bk ?_
          obtain ⟨n0, hn0⟩ : ∃ m, m = n := ⟨n, rfl⟩
          have ln0 : n0 ≤ n := Nat.le_of_eq hn0
          refine Stk.rgD [.rd [], .rd [b28], .rd [], .rd [], .rd [], .rd [], .rd [], .rd [], .rd [b28], .rd [], .rd [], .rd [], .rd [], .rd [], .rd [], .rd [], .rd [], .rd []] none (by kernel_rfl) (by rfl) rfl (by simp [below, hn0, l_b1, hn0, l_b28]) rfl ?_
          obtain ⟨x37, hx37, h⟩ := bnd h
          obtain ⟨i0x37, i1x37, i2x37, _⟩ := idx_ok hx37
          have ex37_1_40 : partOf T.T 40 (encs c77 x27.Params) (v33.toNat * 4 + 1) = some (.agg (c40 x37.Type_)) := by
              have e0 := part_elem0 (e := c77) (z := 4) (T := T.T) (ty := 40) T.t40 (by decide) (by decide) hx37 1 (by decide)
              (try simp only [Nat.mul_one, Nat.add_zero] at e0)
              exact e0.trans (ld_77_1_40 _)
          have ex37_0_9 : partOf T.T 9 (encs c77 x27.Params) (v33.toNat * 4) = some (.sc (.string x37.Name)) := by
              have e0 := part_elem0 (e := c77) (z := 4) (T := T.T) (ty := 9) T.t9 (by decide) (by decide) hx37 0 (by decide)
              (try simp only [Nat.mul_one, Nat.add_zero] at e0)
              exact e0.trans (ld_77_0_9 _)
          refine Stk.runD 16 (fun t H n => t 2 = .own b1 0 ∧ t 7 = .sc (.int .i64 v23) ∧ t 8 = .own b28 0 ∧ t 9 = .sc (.int .i64 v33) ∧ t 124 = .agg (c40 x37.Type_) ∧ t 134 = .sc (.int .i64 (IntKind.i64.wrap (v32 - (if 1048576 < (x37.Name.size : Int) then 1048576 else (x37.Name.size : Int))))) ∧ H b1 = some (.cells (c51 a0) 51) ∧ b1 < n ∧ H b28 = some (.cells (c75 x27) 75) ∧ b28 < n ∧ b1 ≠ b28 ∧ n0 ≤ n) (fun J hJ => ?_) ?_
          · simp [-splice, f1, f2, f7, f8, f9, f116, b_b1, b_b28, ld_75_3_73, i0x37, i1x37, pd40, ex37_1_40, pd9, ex37_0_9]
            exact hJ _ _ _ ⟨by simp [f2], by simp [f7], by simp [f8], by simp [f9], by simp [-splice, f1, f2, f7, f8, f9, f116, b_b1, b_b28, ld_75_3_73, i0x37, i1x37, pd40, ex37_1_40, pd9, ex37_0_9], by simp [-splice, f1, f2, f7, f8, f9, f116, b_b1, b_b28, ld_75_3_73, i0x37, i1x37, pd40, ex37_1_40, pd9, ex37_0_9], b_b1, l_b1, b_b28, l_b28, d_b1_b28, ln0⟩
          clear f1 f2 f7 f8 f9 f116 b_b1 l_b1 b_b28 l_b28 d_b1_b28 ln0
          rintro t H n ⟨f2, f7, f8, f9, f124, f134, b_b1, l_b1, b_b28, l_b28, d_b1_b28, ln0⟩
          obtain ⟨x38, hx38, h⟩ := bnd h
          refine Stk.cvD (g := 14) (args := [.agg (c40 x37.Type_), .sc (.int .i64 (IntKind.i64.wrap (v32 - (if 1048576 < (x37.Name.size : Int) then 1048576 else (x37.Name.size : Int)))))]) (args' := [.agg (c40 x37.Type_), .sc (.int .i64 (IntKind.i64.wrap (v32 - (if 1048576 < (x37.Name.size : Int) then 1048576 else (x37.Name.size : Int)))))]) (v := .sc (.int .i64 x38)) [] (ok_R04_LightType F _ _ _ hx38) rfl (by simp) rfl (by simp [f2, f7, f8, f9, f124, f134]) rfl rfl (by simp [f2, f7, f8, f9, f124, f134]) (.cons (.free (fr40 _)) (.cons (.free (rfl)) (.nil))) (.inl ⟨rfl, rfl⟩) (fun t' ht' => ?_)
          refine Stk.gen (fun t H n => t 2 = .own b1 0 ∧ t 7 = .sc (.int .i64 v23) ∧ t 8 = .own b28 0 ∧ t 9 = .sc (.int .i64 v33) ∧ t 135 = .sc (.int .i64 x38) ∧ H b1 = some (.cells (c51 a0) 51) ∧ b1 < n ∧ H b28 = some (.cells (c75 x27) 75) ∧ b28 < n ∧ b1 ≠ b28 ∧ n0 ≤ n) ⟨by simp [ht', f2], by simp [ht', f7], by simp [ht', f8], by simp [ht', f9], by simp [ht'], b_b1, l_b1, b_b28, l_b28, d_b1_b28, ln0⟩ ?_
          clear f2 f7 f8 f9 f124 f134 b_b1 l_b1 b_b28 l_b28 d_b1_b28 ln0 ht' t'
          rintro t H n ⟨f2, f7, f8, f9, f135, b_b1, l_b1, b_b28, l_b28, d_b1_b28, ln0⟩
          refine Stk.runD 1 (fun t H n => t 1 = .sc (.int .i64 x38) ∧ t 2 = .own b1 0 ∧ t 7 = .sc (.int .i64 v23) ∧ t 8 = .own b28 0 ∧ t 9 = .sc (.int .i64 v33) ∧ H b1 = some (.cells (c51 a0) 51) ∧ b1 < n ∧ H b28 = some (.cells (c75 x27) 75) ∧ b28 < n ∧ b1 ≠ b28 ∧ n0 ≤ n) (fun J hJ => ?_) ?_
          · simp [-splice, f2, f7, f8, f9, f135, b_b1, b_b28]
            exact hJ _ _ _ ⟨by simp [-splice, f2, f7, f8, f9, f135, b_b1, b_b28], by simp [f2], by simp [f7], by simp [f8], by simp [f9], b_b1, l_b1, b_b28, l_b28, d_b1_b28, ln0⟩
          clear f2 f7 f8 f9 f135 b_b1 l_b1 b_b28 l_b28 d_b1_b28 ln0
          rintro t H n ⟨f1, f2, f7, f8, f9, b_b1, l_b1, b_b28, l_b28, d_b1_b28, ln0⟩
          refine Stk.onD ?_
          refine Stk.bn ?_
          refine Stk.rg ?_
          refine Stk.run 3 (fun t H n => t 1 = .sc (.int .i64 x38) ∧ t 2 = .own b1 0 ∧ t 7 = .sc (.int .i64 v23) ∧ t 8 = .own b28 0 ∧ t 9 = .sc (.int .i64 (IntKind.i64.wrap (v33 + 1))) ∧ H b1 = some (.cells (c51 a0) 51) ∧ b1 < n ∧ H b28 = some (.cells (c75 x27) 75) ∧ b28 < n ∧ b1 ≠ b28) (fun J hJ => ?_) ?_
          · simp [-splice, f1, f2, f7, f8, f9, b_b1, b_b28]
            exact hJ _ _ _ ⟨by simp [f1], by simp [f2], by simp [f7], by simp [f8], by simp [-splice, f1, f2, f7, f8, f9, b_b1, b_b28], b_b1, l_b1, b_b28, l_b28, d_b1_b28⟩
          clear f1 f2 f7 f8 f9 b_b1 l_b1 b_b28 l_b28 d_b1_b28 ln0
          rintro t H n ⟨f1, f2, f7, f8, f9, b_b1, l_b1, b_b28, l_b28, d_b1_b28⟩
          refine Stk.on ?_
          exact Stk.ln μ (Nat.lt_succ_self _) (hJ11 _ _ _ _ ⟨x38, (IntKind.i64.wrap (v33 + 1)), h, f1, f2, f7, f8, f9, b_b1, l_b1, b_b28, l_b28, d_b1_b28⟩)
        · have h := cF hb36 h
          refine Stk.ex rfl ?_
          exact Stk.ln 0 (by decide) (hJ10 _ _ _ ⟨v32, h, f1, f2, f7, b_b1, l_b1⟩)
      clear h f1 f2 f7 f8 f9 b_b1 l_b1 b_b28 l_b28 d_b1_b28
      rintro t H n ⟨v31, h, f1, f2, f7, b_b1, l_b1⟩
      subst hK10
      refine Stk.bn ?_
      refine Stk.rg ?_
      refine Stk.run 3 (fun t H n => t 1 = .sc (.int .i64 v31) ∧ t 2 = .own b1 0 ∧ t 7 = .sc (.int .i64 (IntKind.i64.wrap (v23 + 1))) ∧ H b1 = some (.cells (c51 a0) 51) ∧ b1 < n) (fun J hJ => ?_) ?_
      · simp [-splice, f1, f2, f7, b_b1]
        exact hJ _ _ _ ⟨by simp [f1], by simp [f2], by simp [-splice, f1, f2, f7, b_b1], b_b1, l_b1⟩
      clear f1 f2 f7 b_b1 l_b1
      rintro t H n ⟨f1, f2, f7, b_b1, l_b1⟩
      refine Stk.on ?_
      exact Stk.ln μ (Nat.lt_succ_self _) (hJ8 _ _ _ _ ⟨v31, (IntKind.i64.wrap (v23 + 1)), h, f1, f2, f7, b_b1, l_b1⟩)
    · have h := cF hb26 h
      refine Stk.ex rfl ?_
      exact Stk.ln 0 (by decide) (hJ7 _ _ _ ⟨v22, h, f1, f2, b_b1, l_b1⟩)
  clear h f1 f2 f7 b_b1 l_b1
  rintro t H n ⟨v21, h, f1, f2, b_b1, l_b1⟩
  subst hK7
  refine Stk.sq ?_
  refine Stk.sq ?_
  refine Stk.rg ?_
  refine Stk.run 1 (fun t H n => t 1 = .sc (.int .i64 v21) ∧ t 2 = .own b1 0 ∧ t 10 = .sc (.int .i64 0) ∧ H b1 = some (.cells (c51 a0) 51) ∧ b1 < n) (fun J hJ => ?_) ?_
  · simp [-splice, f1, f2, b_b1]
    exact hJ _ _ _ ⟨by simp [f1], by simp [f2], by simp [-splice, f1, f2, b_b1], b_b1, l_b1⟩
  clear f1 f2 b_b1 l_b1
  rintro t H n ⟨f1, f2, f10, b_b1, l_b1⟩
  refine Stk.on ?_
  refine Stk.bk ?_
  refine Stk.lo (fun μ t H n => ∃ v39 : Int, ∃ v40 : Int, R04_LightProg_L4 F a0 μ v39 v40 = some r ∧ t 1 = .sc (.int .i64 v39) ∧ t 2 = .own b1 0 ∧ t 10 = .sc (.int .i64 v40) ∧ H b1 = some (.cells (c51 a0) 51) ∧ b1 < n) F ⟨v21, 0, h, f1, f2, f10, b_b1, l_b1⟩ ?_
  clear h f1 f2 f10 b_b1 l_b1
  rintro J13 hJ13 μ t H n ⟨v39, v40, h, f1, f2, f10, b_b1, l_b1⟩
  cases μ with
  | zero => exact absurd h (by simp [R04_LightProg_L4])
  | succ μ =>
  rw [R04_LightProg_L4] at h
  refine Stk.sq ?_
  refine Stk.sq ?_
  refine Stk.rg ?_
  refine Stk.run 6 (fun t H n => t 1 = .sc (.int .i64 v39) ∧ t 2 = .own b1 0 ∧ t 10 = .sc (.int .i64 v40) ∧ t 141 = .sc (.bool (decide (v40 < (a0.Hands.length : Int)))) ∧ H b1 = some (.cells (c51 a0) 51) ∧ b1 < n) (fun J hJ => ?_) ?_
  · simp [-splice, f1, f2, f10, b_b1, ld_51_16_49]
    exact hJ _ _ _ ⟨by simp [f1], by simp [f2], by simp [f10], by simp [-splice, f1, f2, f10, b_b1, ld_51_16_49], b_b1, l_b1⟩
  clear f1 f2 f10 b_b1 l_b1
  rintro t H n ⟨f1, f2, f10, f141, b_b1, l_b1⟩
  refine Stk.jo 3 (fun t H n => t 1 = .sc (.int .i64 v39) ∧ t 2 = .own b1 0 ∧ t 10 = .sc (.int .i64 v40) ∧ t 144 = .sc (.bool ((decide (v40 < (a0.Hands.length : Int))) && (decide (0 ≤ v39)))) ∧ H b1 = some (.cells (c51 a0) 51) ∧ b1 < n) (fun J14 hJ14 => ?_) ?_
  · rcases Bool.eq_false_or_eq_true (decide (v40 < (a0.Hands.length : Int))) with hb14 | hb14
    · rw [hb14] at f141
      refine Stk.run 3 (fun t H n => t 1 = .sc (.int .i64 v39) ∧ t 2 = .own b1 0 ∧ t 10 = .sc (.int .i64 v40) ∧ t 144 = .sc (.bool (decide (0 ≤ v39))) ∧ H b1 = some (.cells (c51 a0) 51) ∧ b1 < n) (fun J hJ => ?_) ?_
      · simp [-splice, f1, f2, f10, f141, b_b1]
        exact hJ _ _ _ ⟨by simp [f1], by simp [f2], by simp [f10], by simp [-splice, f1, f2, f10, f141, b_b1], b_b1, l_b1⟩
      clear f1 f2 f10 f141 b_b1 l_b1
      rintro t H n ⟨f1, f2, f10, f144, b_b1, l_b1⟩
      refine Stk.on ?_
      exact Stk.ln 0 (by decide) (hJ14 _ _ _ ⟨f1, f2, f10, f144.trans (congrArg (fun q => AV.sc (.bool q)) (by rw [hb14]; rfl)), b_b1, l_b1⟩)
    · rw [hb14] at f141
      refine Stk.run 3 (fun t H n => t 1 = .sc (.int .i64 v39) ∧ t 2 = .own b1 0 ∧ t 10 = .sc (.int .i64 v40) ∧ t 144 = .sc (.bool false) ∧ H b1 = some (.cells (c51 a0) 51) ∧ b1 < n) (fun J hJ => ?_) ?_
      · simp [-splice, f1, f2, f10, f141, b_b1]
        exact hJ _ _ _ ⟨by simp [f1], by simp [f2], by simp [f10], by simp [-splice, f1, f2, f10, f141, b_b1], b_b1, l_b1⟩
      clear f1 f2 f10 f141 b_b1 l_b1
      rintro t H n ⟨f1, f2, f10, f144, b_b1, l_b1⟩
      refine Stk.on ?_
      exact Stk.ln 0 (by decide) (hJ14 _ _ _ ⟨f1, f2, f10, f144.trans (congrArg (fun q => AV.sc (.bool q)) (by rw [hb14]; rfl)), b_b1, l_b1⟩)
  clear f1 f2 f10 f141 b_b1 l_b1
  rintro t H n ⟨f1, f2, f10, f144, b_b1, l_b1⟩
  refine Stk.on ?_
  refine Stk.cond ((decide (v40 < (a0.Hands.length : Int))) && (decide (0 ≤ v39))) (by exact f144) (fun hb43 => ?_) (fun hb43 => ?_)
  · have h := cT hb43 h
    refine Stk.sk ?_
    refine Stk.sq ?_
    refine Stk.bk ?_
    refine Stk.sq ?_
    refine Stk.rg ?_
    obtain ⟨x44, hx44, h⟩ := bnd h
    obtain ⟨i0x44, i1x44, i2x44, _⟩ := idx_ok hx44
    have ex44_0_79 : partOf T.T 79 (encs c79 a0.Hands) (v40.toNat * 16) = some (.agg (c79 x44)) := by
        have e0 := part_elem0 (e := c79) (z := 16) (T := T.T) (ty := 79) T.t79 (by decide) (by decide) hx44 0 (by decide)
        (try simp only [Nat.mul_one, Nat.add_zero] at e0)
        exact e0.trans (ld_79_0_79 _)
    refine Stk.run 5 (fun t H n => t 1 = .sc (.int .i64 v39) ∧ t 2 = .own b1 0 ∧ t 10 = .sc (.int .i64 v40) ∧ t 151 = .agg (c79 x44) ∧ H b1 = some (.cells (c51 a0) 51) ∧ b1 < n) (fun J hJ => ?_) ?_
    · simp [-splice, f1, f2, f10, f144, b_b1, ld_51_16_49, i0x44, i1x44, pd79, ex44_0_79]
      exact hJ _ _ _ ⟨by simp [f1], by simp [f2], by simp [f10], by simp [-splice, f1, f2, f10, f144, b_b1, ld_51_16_49, i0x44, i1x44, pd79, ex44_0_79], b_b1, l_b1⟩
    clear f1 f2 f10 f144 b_b1 l_b1
    rintro t H n ⟨f1, f2, f10, f151, b_b1, l_b1⟩
    refine Stk.oz T.t79 (cs := c79 (api_Hand.mk (api_Pos.mk 0 0) ⟨#[]⟩ (api_Param.mk ⟨#[]⟩ (api_Type.mk 0 ⟨#[]⟩ [])) 0 (api_Expr.mk 0 (api_Pos.mk 0 0) 0 [] ⟨#[]⟩ [] []))) (by rfl) rfl (by simp [f1, f2, f10, f151]) rfl (fun t' ht' => ?_)
    refine Stk.gen (fun t H n => ∃ b45, t 1 = .sc (.int .i64 v39) ∧ t 2 = .own b1 0 ∧ t 10 = .sc (.int .i64 v40) ∧ t 11 = .own b45 0 ∧ t 151 = .agg (c79 x44) ∧ H b1 = some (.cells (c51 a0) 51) ∧ b1 < n ∧ H b45 = some (.cells (c79 (api_Hand.mk (api_Pos.mk 0 0) ⟨#[]⟩ (api_Param.mk ⟨#[]⟩ (api_Type.mk 0 ⟨#[]⟩ [])) 0 (api_Expr.mk 0 (api_Pos.mk 0 0) 0 [] ⟨#[]⟩ [] []))) 79) ∧ b45 < n ∧ b1 ≠ b45) ⟨n, by simp [ht', f1], by simp [ht', f2], by simp [ht', f10], by simp [ht'], by simp [ht', f151], (upd_ne _ _ (Nat.ne_of_lt l_b1)).trans b_b1, Nat.lt_succ_of_lt l_b1, upd_same _ _ _, Nat.lt_succ_self _, Nat.ne_of_lt l_b1⟩ ?_
    clear f1 f2 f10 f151 b_b1 l_b1 ht' t'
    rintro t H n ⟨b45, f1, f2, f10, f11, f151, b_b1, l_b1, b_b45, l_b45, d_b1_b45⟩
    refine Stk.om (mop_store (z := 16) rfl f11 b_b45 f151 (len79 _) (by rw [len79]; decide) (ok79 _) (st_79_0_79 _ _)) (by simp [f1, f2, f10, f11, f151]) rfl (fun t' ht' => ?_)
    refine Stk.gen (fun t H n => t 1 = .sc (.int .i64 v39) ∧ t 2 = .own b1 0 ∧ t 10 = .sc (.int .i64 v40) ∧ t 11 = .own b45 0 ∧ H b1 = some (.cells (c51 a0) 51) ∧ b1 < n ∧ H b45 = some (.cells (c79 x44) 79) ∧ b45 < n ∧ b1 ≠ b45) ⟨by simp [ht', f1], by simp [ht', f2], by simp [ht', f10], by simp [ht', f11], (upd_ne _ _ d_b1_b45).trans b_b1, l_b1, upd_same _ _ _, l_b45, d_b1_b45⟩ ?_
    clear f1 f2 f10 f11 f151 b_b1 l_b1 b_b45 l_b45 d_b1_b45 ht' t'
    rintro t H n ⟨f1, f2, f10, f11, b_b1, l_b1, b_b45, l_b45, d_b1_b45⟩
    refine Stk.on ?_
    obtain ⟨n0, hn0⟩ : ∃ m, m = n := ⟨n, rfl⟩
    have ln0 : n0 ≤ n := Nat.le_of_eq hn0
    refine Stk.rgD [.rd [], .rd [b45], .rd [], .rd [], .rd [b45], .rd [], .rd [], .rd [], .rd [b45], .rd [], .rd [], .rd [], .rd [], .rd [], .rd [b45], .rd [], .rd [], .rd [], .rd [], .rd [], .rd []] none (by kernel_rfl) (by rfl) rfl (by simp [below, hn0, l_b1, hn0, l_b45]) rfl ?_
    refine Stk.runD 18 (fun t H n => t 2 = .own b1 0 ∧ t 10 = .sc (.int .i64 v40) ∧ t 153 = .agg (c48 x44.Body) ∧ t 156 = .agg (c40 x44.Param.Type_) ∧ t 169 = .sc (.int .i64 (IntKind.i64.wrap ((IntKind.i64.wrap ((IntKind.i64.wrap (v39 - 1)) - (if 1048576 < (x44.Name.size : Int) then 1048576 else (x44.Name.size : Int)))) - (if 1048576 < (x44.Param.Name.size : Int) then 1048576 else (x44.Param.Name.size : Int))))) ∧ H b1 = some (.cells (c51 a0) 51) ∧ b1 < n ∧ n0 ≤ n) (fun J hJ => ?_) ?_
    · simp [-splice, f1, f2, f10, f11, b_b1, b_b45, ld_79_8_48, ld_79_4_40, ld_79_2_9, ld_79_3_9]
      exact hJ _ _ _ ⟨by simp [f2], by simp [f10], by simp [-splice, f1, f2, f10, f11, b_b1, b_b45, ld_79_8_48, ld_79_4_40, ld_79_2_9, ld_79_3_9], by simp [-splice, f1, f2, f10, f11, b_b1, b_b45, ld_79_8_48, ld_79_4_40, ld_79_2_9, ld_79_3_9], by simp [-splice, f1, f2, f10, f11, b_b1, b_b45, ld_79_8_48, ld_79_4_40, ld_79_2_9, ld_79_3_9], b_b1, l_b1, ln0⟩
    clear f1 f2 f10 f11 b_b1 l_b1 b_b45 l_b45 d_b1_b45 ln0
    rintro t H n ⟨f2, f10, f153, f156, f169, b_b1, l_b1, ln0⟩
    obtain ⟨x46, hx46, h⟩ := bnd h
    refine Stk.cvD (g := 14) (args := [.agg (c40 x44.Param.Type_), .sc (.int .i64 (IntKind.i64.wrap ((IntKind.i64.wrap ((IntKind.i64.wrap (v39 - 1)) - (if 1048576 < (x44.Name.size : Int) then 1048576 else (x44.Name.size : Int)))) - (if 1048576 < (x44.Param.Name.size : Int) then 1048576 else (x44.Param.Name.size : Int)))))]) (args' := [.agg (c40 x44.Param.Type_), .sc (.int .i64 (IntKind.i64.wrap ((IntKind.i64.wrap ((IntKind.i64.wrap (v39 - 1)) - (if 1048576 < (x44.Name.size : Int) then 1048576 else (x44.Name.size : Int)))) - (if 1048576 < (x44.Param.Name.size : Int) then 1048576 else (x44.Param.Name.size : Int)))))]) (v := .sc (.int .i64 x46)) [] (ok_R04_LightType F _ _ _ hx46) rfl (by simp) rfl (by simp [f2, f10, f153, f156, f169]) rfl rfl (by simp [f2, f10, f153, f156, f169]) (.cons (.free (fr40 _)) (.cons (.free (rfl)) (.nil))) (.inl ⟨rfl, rfl⟩) (fun t' ht' => ?_)
    refine Stk.gen (fun t H n => t 2 = .own b1 0 ∧ t 10 = .sc (.int .i64 v40) ∧ t 153 = .agg (c48 x44.Body) ∧ t 170 = .sc (.int .i64 x46) ∧ H b1 = some (.cells (c51 a0) 51) ∧ b1 < n ∧ n0 ≤ n) ⟨by simp [ht', f2], by simp [ht', f10], by simp [ht', f153], by simp [ht'], b_b1, l_b1, ln0⟩ ?_
    clear f2 f10 f153 f156 f169 b_b1 l_b1 ln0 ht' t'
    rintro t H n ⟨f2, f10, f153, f170, b_b1, l_b1, ln0⟩
    obtain ⟨x47, hx47, h⟩ := bnd h
    refine Stk.cvD (g := 32) (args := [.agg (c48 x44.Body), .sc (.int .i64 x46)]) (args' := [.agg (c48 x44.Body), .sc (.int .i64 x46)]) (v := .sc (.int .i64 x47)) [] (ok_R04_Light F _ _ _ hx47) rfl (by simp) rfl (by simp [f2, f10, f153, f170]) rfl rfl (by simp [f2, f10, f153, f170]) (.cons (.free (fr48 _)) (.cons (.free (rfl)) (.nil))) (.inl ⟨rfl, rfl⟩) (fun t' ht' => ?_)
    refine Stk.gen (fun t H n => t 2 = .own b1 0 ∧ t 10 = .sc (.int .i64 v40) ∧ t 171 = .sc (.int .i64 x47) ∧ H b1 = some (.cells (c51 a0) 51) ∧ b1 < n ∧ n0 ≤ n) ⟨by simp [ht', f2], by simp [ht', f10], by simp [ht'], b_b1, l_b1, ln0⟩ ?_
    clear f2 f10 f153 f170 b_b1 l_b1 ln0 ht' t'
    rintro t H n ⟨f2, f10, f171, b_b1, l_b1, ln0⟩
    refine Stk.runD 1 (fun t H n => t 1 = .sc (.int .i64 x47) ∧ t 2 = .own b1 0 ∧ t 10 = .sc (.int .i64 v40) ∧ H b1 = some (.cells (c51 a0) 51) ∧ b1 < n ∧ n0 ≤ n) (fun J hJ => ?_) ?_
    · simp [-splice, f2, f10, f171, b_b1]
      exact hJ _ _ _ ⟨by simp [-splice, f2, f10, f171, b_b1], by simp [f2], by simp [f10], b_b1, l_b1, ln0⟩
    clear f2 f10 f171 b_b1 l_b1 ln0
    rintro t H n ⟨f1, f2, f10, b_b1, l_b1, ln0⟩
    refine Stk.onD ?_
    refine Stk.bn ?_
    refine Stk.rg ?_
    refine Stk.run 3 (fun t H n => t 1 = .sc (.int .i64 x47) ∧ t 2 = .own b1 0 ∧ t 10 = .sc (.int .i64 (IntKind.i64.wrap (v40 + 1))) ∧ H b1 = some (.cells (c51 a0) 51) ∧ b1 < n) (fun J hJ => ?_) ?_
    · simp [-splice, f1, f2, f10, b_b1]
      exact hJ _ _ _ ⟨by simp [f1], by simp [f2], by simp [-splice, f1, f2, f10, b_b1], b_b1, l_b1⟩
    clear f1 f2 f10 b_b1 l_b1 ln0
    rintro t H n ⟨f1, f2, f10, b_b1, l_b1⟩
    refine Stk.on ?_
    exact Stk.ln μ (Nat.lt_succ_self _) (hJ13 _ _ _ _ ⟨x47, (IntKind.i64.wrap (v40 + 1)), h, f1, f2, f10, b_b1, l_b1⟩)
  · have h := cF hb43 h
    refine Stk.ex rfl ?_
    refine Stk.sq ?_
    refine Stk.rg ?_
    refine Stk.run 2 (fun t H n => t 4 = .sc (.int .i64 v39)) (fun J hJ => ?_) ?_
    · simp [-splice, f1, f2, f10, f144, b_b1]
      exact hJ _ _ _ (by simp [-splice, f1, f2, f10, f144, b_b1])
    clear f1 f2 f10 f144 b_b1 l_b1
    rintro t H n f4
    refine Stk.on ?_
    refine Stk.rt ?_
    have hq := Option.some.inj h; subst hq
    exact (hr _ _ _ (.sc (.int .i64 v39)) ([]) (by simp [f4]) (.inr (.inr (.free (rfl))))).1
theorem ok_L07_light (F : Nat) (a0 : (List api_Data)) (r : Bool) (h : L07_light F a0 = some r) : RunF Try.prog T.T 6 [.ssl (encs c32 a0) a0.length false] (.sc (.bool r)) := by
  rw [L07_light] at h
  refine RunF.z Try.func6 rfl rfl rfl rfl rfl (fun C hr => ?_)
  refine Stk.gen (fun t H n => t 0 = .ssl (encs c32 a0) a0.length false) (by simp) ?_
  rintro t H n f0
  refine Stk.sq ?_
  refine Stk.rg ?_
  refine Stk.run 1 (fun t H n => t 0 = .ssl (encs c32 a0) a0.length false) (fun J hJ => ?_) ?_
  · simp [-splice, f0]
    exact hJ _ _ _ (by simp [f0])
  clear f0
  rintro t H n f0
  refine Stk.on ?_
  refine Stk.sq ?_
  refine Stk.rg ?_
  refine Stk.run 1 (fun t H n => t 0 = .ssl (encs c32 a0) a0.length false ∧ t 3 = .sc (.int .i64 2000)) (fun J hJ => ?_) ?_
  · simp [-splice, f0]
    exact hJ _ _ _ ⟨by simp [f0], by simp [-splice, f0]⟩
  clear f0
  rintro t H n ⟨f0, f3⟩
  refine Stk.on ?_
  refine Stk.sq ?_
  refine Stk.sq ?_
  refine Stk.rg ?_
  refine Stk.run 1 (fun t H n => t 0 = .ssl (encs c32 a0) a0.length false ∧ t 3 = .sc (.int .i64 2000) ∧ t 4 = .sc (.int .i64 0)) (fun J hJ => ?_) ?_
  · simp [-splice, f0, f3]
    exact hJ _ _ _ ⟨by simp [f0], by simp [f3], by simp [-splice, f0, f3]⟩
  clear f0 f3
  rintro t H n ⟨f0, f3, f4⟩
  refine Stk.on ?_
  obtain ⟨K1, hK1, h⟩ := jnd h
  refine Stk.jn (fun t H n => ∃ v1 : Int, K1 v1 = some r ∧ t 0 = .ssl (encs c32 a0) a0.length false ∧ t 3 = .sc (.int .i64 v1)) trivial (fun J1 hJ1 => ?_) ?_
  · skip
    refine Stk.bk ?_
    refine Stk.lo (fun μ t H n => ∃ v2 : Int, ∃ v3 : Int, L07_light_L0 F a0 K1 μ v2 v3 = some r ∧ t 0 = .ssl (encs c32 a0) a0.length false ∧ t 3 = .sc (.int .i64 v2) ∧ t 4 = .sc (.int .i64 v3)) F ⟨2000, 0, h, f0, f3, f4⟩ ?_
    clear h f0 f3 f4
    rintro J2 hJ2 μ t H n ⟨v2, v3, h, f0, f3, f4⟩
    cases μ with
    | zero => exact absurd h (by simp [L07_light_L0])
    | succ μ =>
    rw [L07_light_L0] at h
    refine Stk.sq ?_
    refine Stk.sq ?_
    refine Stk.rg ?_
    refine Stk.run 5 (fun t H n => t 0 = .ssl (encs c32 a0) a0.length false ∧ t 3 = .sc (.int .i64 v2) ∧ t 4 = .sc (.int .i64 v3) ∧ t 10 = .sc (.bool (decide (v3 < (a0.length : Int))))) (fun J hJ => ?_) ?_
    · simp [-splice, f0, f3, f4]
      exact hJ _ _ _ ⟨by simp [f0], by simp [f3], by simp [f4], by simp [-splice, f0, f3, f4]⟩
    clear f0 f3 f4
    rintro t H n ⟨f0, f3, f4, f10⟩
    refine Stk.jo 3 (fun t H n => t 0 = .ssl (encs c32 a0) a0.length false ∧ t 3 = .sc (.int .i64 v2) ∧ t 4 = .sc (.int .i64 v3) ∧ t 13 = .sc (.bool ((decide (v3 < (a0.length : Int))) && (decide (0 ≤ v2))))) (fun J3 hJ3 => ?_) ?_
    · rcases Bool.eq_false_or_eq_true (decide (v3 < (a0.length : Int))) with hb3 | hb3
      · rw [hb3] at f10
        refine Stk.run 3 (fun t H n => t 0 = .ssl (encs c32 a0) a0.length false ∧ t 3 = .sc (.int .i64 v2) ∧ t 4 = .sc (.int .i64 v3) ∧ t 13 = .sc (.bool (decide (0 ≤ v2)))) (fun J hJ => ?_) ?_
        · simp [-splice, f0, f3, f4, f10]
          exact hJ _ _ _ ⟨by simp [f0], by simp [f3], by simp [f4], by simp [-splice, f0, f3, f4, f10]⟩
        clear f0 f3 f4 f10
        rintro t H n ⟨f0, f3, f4, f13⟩
        refine Stk.on ?_
        exact Stk.ln 0 (by decide) (hJ3 _ _ _ ⟨f0, f3, f4, f13.trans (congrArg (fun q => AV.sc (.bool q)) (by rw [hb3]; rfl))⟩)
      · rw [hb3] at f10
        refine Stk.run 3 (fun t H n => t 0 = .ssl (encs c32 a0) a0.length false ∧ t 3 = .sc (.int .i64 v2) ∧ t 4 = .sc (.int .i64 v3) ∧ t 13 = .sc (.bool false)) (fun J hJ => ?_) ?_
        · simp [-splice, f0, f3, f4, f10]
          exact hJ _ _ _ ⟨by simp [f0], by simp [f3], by simp [f4], by simp [-splice, f0, f3, f4, f10]⟩
        clear f0 f3 f4 f10
        rintro t H n ⟨f0, f3, f4, f13⟩
        refine Stk.on ?_
        exact Stk.ln 0 (by decide) (hJ3 _ _ _ ⟨f0, f3, f4, f13.trans (congrArg (fun q => AV.sc (.bool q)) (by rw [hb3]; rfl))⟩)
    clear f0 f3 f4 f10
    rintro t H n ⟨f0, f3, f4, f13⟩
    refine Stk.on ?_
    refine Stk.cond ((decide (v3 < (a0.length : Int))) && (decide (0 ≤ v2))) (by exact f13) (fun hb6 => ?_) (fun hb6 => ?_)
    · have h := cT hb6 h
      refine Stk.sk ?_
      refine Stk.sq ?_
      refine Stk.bk ?_
      refine Stk.sq ?_
      refine Stk.rg ?_
      obtain ⟨x7, hx7, h⟩ := bnd h
      obtain ⟨i0x7, i1x7, i2x7, _⟩ := idx_ok hx7
      have ex7_2_9 : partOf T.T 9 (encs c32 a0) (v3.toNat * 4 + 2) = some (.sc (.string x7.Name)) := by
          have e0 := part_elem0 (e := c32) (z := 4) (T := T.T) (ty := 9) T.t9 (by decide) (by decide) hx7 2 (by decide)
          (try simp only [Nat.mul_one, Nat.add_zero] at e0)
          exact e0.trans (ld_32_2_9 _)
      refine Stk.run 11 (fun t H n => t 0 = .ssl (encs c32 a0) a0.length false ∧ t 3 = .sc (.int .i64 (IntKind.i64.wrap (v2 - (IntKind.i64.wrap (1 + (if 2000 < (x7.Name.size : Int) then 2000 else (x7.Name.size : Int))))))) ∧ t 4 = .sc (.int .i64 v3)) (fun J hJ => ?_) ?_
      · simp [-splice, f0, f3, f4, f13, i0x7, i1x7, pd9, ex7_2_9]
        exact hJ _ _ _ ⟨by simp [f0], by simp [-splice, f0, f3, f4, f13, i0x7, i1x7, pd9, ex7_2_9], by simp [f4]⟩
      clear f0 f3 f4 f13
      rintro t H n ⟨f0, f3, f4⟩
      refine Stk.on ?_
      refine Stk.sq ?_
      refine Stk.rg ?_
      refine Stk.run 1 (fun t H n => t 0 = .ssl (encs c32 a0) a0.length false ∧ t 3 = .sc (.int .i64 (IntKind.i64.wrap (v2 - (IntKind.i64.wrap (1 + (if 2000 < (x7.Name.size : Int) then 2000 else (x7.Name.size : Int))))))) ∧ t 4 = .sc (.int .i64 v3) ∧ t 5 = .sc (.int .i64 0)) (fun J hJ => ?_) ?_
      · simp [-splice, f0, f3, f4]
        exact hJ _ _ _ ⟨by simp [f0], by simp [f3], by simp [f4], by simp [-splice, f0, f3, f4]⟩
      clear f0 f3 f4
      rintro t H n ⟨f0, f3, f4, f5⟩
      refine Stk.on ?_
      obtain ⟨K4, hK4, h⟩ := jnd h
      refine Stk.jn (fun t H n => ∃ v8 : Int, K4 v8 = some r ∧ t 0 = .ssl (encs c32 a0) a0.length false ∧ t 3 = .sc (.int .i64 v8) ∧ t 4 = .sc (.int .i64 v3)) trivial (fun J4 hJ4 => ?_) ?_
      · skip
        refine Stk.bk ?_
        refine Stk.lo (fun μ t H n => ∃ v9 : Int, ∃ v10 : Int, L07_light_L1 F a0 v3 K4 μ v9 v10 = some r ∧ t 0 = .ssl (encs c32 a0) a0.length false ∧ t 3 = .sc (.int .i64 v9) ∧ t 4 = .sc (.int .i64 v3) ∧ t 5 = .sc (.int .i64 v10)) F ⟨(IntKind.i64.wrap (v2 - (IntKind.i64.wrap (1 + (if 2000 < (x7.Name.size : Int) then 2000 else (x7.Name.size : Int)))))), 0, h, f0, f3, f4, f5⟩ ?_
        clear h f0 f3 f4 f5
        rintro J5 hJ5 μ t H n ⟨v9, v10, h, f0, f3, f4, f5⟩
        cases μ with
        | zero => exact absurd h (by simp [L07_light_L1])
        | succ μ =>
        rw [L07_light_L1] at h
        refine Stk.sq ?_
        refine Stk.sq ?_
        refine Stk.rg ?_
        obtain ⟨x13, hx13, h⟩ := bnd h
        obtain ⟨i0x13, i1x13, i2x13, _⟩ := idx_ok hx13
        have ex13_3_30 : partOf T.T 30 (encs c32 a0) (v3.toNat * 4 + 3) = some (.ssl (encs c35 x13.Cons) x13.Cons.length false) := by
            have e0 := part_elem0 (e := c32) (z := 4) (T := T.T) (ty := 30) T.t30 (by decide) (by decide) hx13 3 (by decide)
            (try simp only [Nat.mul_one, Nat.add_zero] at e0)
            exact e0.trans (ld_32_3_30 _)
        refine Stk.run 9 (fun t H n => t 0 = .ssl (encs c32 a0) a0.length false ∧ t 3 = .sc (.int .i64 v9) ∧ t 4 = .sc (.int .i64 v3) ∧ t 5 = .sc (.int .i64 v10) ∧ t 34 = .sc (.bool (decide (v10 < (x13.Cons.length : Int))))) (fun J hJ => ?_) ?_
        · simp [-splice, f0, f3, f4, f5, i0x13, i1x13, pd30, ex13_3_30]
          exact hJ _ _ _ ⟨by simp [f0], by simp [f3], by simp [f4], by simp [f5], by simp [-splice, f0, f3, f4, f5, i0x13, i1x13, pd30, ex13_3_30]⟩
        clear f0 f3 f4 f5
        rintro t H n ⟨f0, f3, f4, f5, f34⟩
        refine Stk.jo 3 (fun t H n => t 0 = .ssl (encs c32 a0) a0.length false ∧ t 3 = .sc (.int .i64 v9) ∧ t 4 = .sc (.int .i64 v3) ∧ t 5 = .sc (.int .i64 v10) ∧ t 37 = .sc (.bool ((decide (v10 < (x13.Cons.length : Int))) && (decide (0 ≤ v9))))) (fun J6 hJ6 => ?_) ?_
        · rcases Bool.eq_false_or_eq_true (decide (v10 < (x13.Cons.length : Int))) with hb6 | hb6
          · rw [hb6] at f34
            refine Stk.run 3 (fun t H n => t 0 = .ssl (encs c32 a0) a0.length false ∧ t 3 = .sc (.int .i64 v9) ∧ t 4 = .sc (.int .i64 v3) ∧ t 5 = .sc (.int .i64 v10) ∧ t 37 = .sc (.bool (decide (0 ≤ v9)))) (fun J hJ => ?_) ?_
            · simp [-splice, f0, f3, f4, f5, f34]
              exact hJ _ _ _ ⟨by simp [f0], by simp [f3], by simp [f4], by simp [f5], by simp [-splice, f0, f3, f4, f5, f34]⟩
            clear f0 f3 f4 f5 f34
            rintro t H n ⟨f0, f3, f4, f5, f37⟩
            refine Stk.on ?_
            exact Stk.ln 0 (by decide) (hJ6 _ _ _ ⟨f0, f3, f4, f5, f37.trans (congrArg (fun q => AV.sc (.bool q)) (by rw [hb6]; rfl))⟩)
          · rw [hb6] at f34
            refine Stk.run 3 (fun t H n => t 0 = .ssl (encs c32 a0) a0.length false ∧ t 3 = .sc (.int .i64 v9) ∧ t 4 = .sc (.int .i64 v3) ∧ t 5 = .sc (.int .i64 v10) ∧ t 37 = .sc (.bool false)) (fun J hJ => ?_) ?_
            · simp [-splice, f0, f3, f4, f5, f34]
              exact hJ _ _ _ ⟨by simp [f0], by simp [f3], by simp [f4], by simp [f5], by simp [-splice, f0, f3, f4, f5, f34]⟩
            clear f0 f3 f4 f5 f34
            rintro t H n ⟨f0, f3, f4, f5, f37⟩
            refine Stk.on ?_
            exact Stk.ln 0 (by decide) (hJ6 _ _ _ ⟨f0, f3, f4, f5, f37.trans (congrArg (fun q => AV.sc (.bool q)) (by rw [hb6]; rfl))⟩)
        clear f0 f3 f4 f5 f34
        rintro t H n ⟨f0, f3, f4, f5, f37⟩
        refine Stk.on ?_
        refine Stk.cond ((decide (v10 < (x13.Cons.length : Int))) && (decide (0 ≤ v9))) (by exact f37) (fun hb14 => ?_) (fun hb14 => ?_)
        · have h := cT hb14 h
          refine Stk.sk ?_
          refine Stk.sq ?_
          refine Stk.bk ?_
          obtain ⟨n0, hn0⟩ : ∃ m, m = n := ⟨n, rfl⟩
          have ln0 : n0 ≤ n := Nat.le_of_eq hn0
          refine Stk.rgD [.rd [], .rd [], .rd [], .rd [], .rd [], .rd [], .rd [], .rd [], .rd [], .rd [], .rd [], .rd [], .rd [], .rd [], .rd [], .rd [], .rd [], .rd [], .rd [], .rd [], .rd [], .rd []] none (by kernel_rfl) (by rfl) rfl (by simp [below]) rfl ?_
          obtain ⟨x15, hx15, h⟩ := bnd h
          obtain ⟨i0x15, i1x15, i2x15, _⟩ := idx_ok hx15
          have ex15_3_30 : partOf T.T 30 (encs c32 a0) (v3.toNat * 4 + 3) = some (.ssl (encs c35 x15.Cons) x15.Cons.length false) := by
              have e0 := part_elem0 (e := c32) (z := 4) (T := T.T) (ty := 30) T.t30 (by decide) (by decide) hx15 3 (by decide)
              (try simp only [Nat.mul_one, Nat.add_zero] at e0)
              exact e0.trans (ld_32_3_30 _)
          obtain ⟨x16, hx16, h⟩ := bnd h
          obtain ⟨i0x16, i1x16, i2x16, _⟩ := idx_ok hx16
          have ex16_0_9 : partOf T.T 9 (encs c35 x15.Cons) (v10.toNat * 2) = some (.sc (.string x16.Name)) := by
              have e0 := part_elem0 (e := c35) (z := 2) (T := T.T) (ty := 9) T.t9 (by decide) (by decide) hx16 0 (by decide)
              (try simp only [Nat.mul_one, Nat.add_zero] at e0)
              exact e0.trans (ld_35_0_9 _)
          have ex15_3_30 : partOf T.T 30 (encs c32 a0) (v3.toNat * 4 + 3) = some (.ssl (encs c35 x15.Cons) x15.Cons.length false) := by
              have e0 := part_elem0 (e := c32) (z := 4) (T := T.T) (ty := 30) T.t30 (by decide) (by decide) hx15 3 (by decide)
              (try simp only [Nat.mul_one, Nat.add_zero] at e0)
              exact e0.trans (ld_32_3_30 _)
          have ex16_1_33 : partOf T.T 33 (encs c35 x15.Cons) (v10.toNat * 2 + 1) = some (.ssl (encs c40 x16.Fields) x16.Fields.length false) := by
              have e0 := part_elem0 (e := c35) (z := 2) (T := T.T) (ty := 33) T.t33 (by decide) (by decide) hx16 1 (by decide)
              (try simp only [Nat.mul_one, Nat.add_zero] at e0)
              exact e0.trans (ld_35_1_33 _)
          refine Stk.runD 18 (fun t H n => t 0 = .ssl (encs c32 a0) a0.length false ∧ t 3 = .sc (.int .i64 v9) ∧ t 4 = .sc (.int .i64 v3) ∧ t 5 = .sc (.int .i64 v10) ∧ t 48 = .sc (.string x16.Name) ∧ t 57 = .ssl (encs c40 x16.Fields) x16.Fields.length false ∧ n0 ≤ n) (fun J hJ => ?_) ?_
          · simp [-splice, f0, f3, f4, f5, f37, i0x15, i1x15, pd30, ex15_3_30, i0x16, i1x16, pd9, ex16_0_9, pd33, ex16_1_33]
            exact hJ _ _ _ ⟨by simp [f0], by simp [f3], by simp [f4], by simp [f5], by simp [-splice, f0, f3, f4, f5, f37, i0x15, i1x15, pd30, ex15_3_30, i0x16, i1x16, pd9, ex16_0_9, pd33, ex16_1_33], by simp [-splice, f0, f3, f4, f5, f37, i0x15, i1x15, pd30, ex15_3_30, i0x16, i1x16, pd9, ex16_0_9, pd33, ex16_1_33], ln0⟩
          clear f0 f3 f4 f5 f37 ln0
          rintro t H n ⟨f0, f3, f4, f5, f48, f57, ln0⟩
          refine Stk.ovD rfl (by simp [f0, f3, f4, f5, f48, f57]) rfl (vop_build T.t40 rfl rfl (cs := c40 (api_Type.mk 0 ⟨#[]⟩ [])) (cs' := c40 (api_Type.mk 0 x16.Name x16.Fields)) rfl (.cons f48 rfl rfl rfl rfl (rfl) (by rw [len40]; decide) (st_40_1_9 _ _) (.cons f57 rfl rfl rfl rfl (rfl) (by rw [len40]; decide) (st_40_2_33 _ _) (.nil)))) (by simp [f0, f3, f4, f5, f48, f57]) rfl (fun t' ht' => ?_)
          refine Stk.gen (fun t H n => t 0 = .ssl (encs c32 a0) a0.length false ∧ t 3 = .sc (.int .i64 v9) ∧ t 4 = .sc (.int .i64 v3) ∧ t 5 = .sc (.int .i64 v10) ∧ t 58 = .agg (c40 (api_Type.mk 0 x16.Name x16.Fields)) ∧ n0 ≤ n) ⟨by simp [ht', f0], by simp [ht', f3], by simp [ht', f4], by simp [ht', f5], by simp [ht'], ln0⟩ ?_
          clear f0 f3 f4 f5 f48 f57 ln0 ht' t'
          rintro t H n ⟨f0, f3, f4, f5, f58, ln0⟩
          refine Stk.runD 1 (fun t H n => t 0 = .ssl (encs c32 a0) a0.length false ∧ t 4 = .sc (.int .i64 v3) ∧ t 5 = .sc (.int .i64 v10) ∧ t 58 = .agg (c40 (api_Type.mk 0 x16.Name x16.Fields)) ∧ t 59 = .sc (.int .i64 v9) ∧ n0 ≤ n) (fun J hJ => ?_) ?_
          · simp [-splice, f0, f3, f4, f5, f58]
            exact hJ _ _ _ ⟨by simp [f0], by simp [f4], by simp [f5], by simp [f58], by simp [-splice, f0, f3, f4, f5, f58], ln0⟩
          clear f0 f3 f4 f5 f58 ln0
          rintro t H n ⟨f0, f4, f5, f58, f59, ln0⟩
          obtain ⟨x17, hx17, h⟩ := bnd h
          refine Stk.cvD (g := 14) (args := [.agg (c40 (api_Type.mk 0 x16.Name x16.Fields)), .sc (.int .i64 v9)]) (args' := [.agg (c40 (api_Type.mk 0 x16.Name x16.Fields)), .sc (.int .i64 v9)]) (v := .sc (.int .i64 x17)) [] (ok_R04_LightType F _ _ _ hx17) rfl (by simp) rfl (by simp [f0, f4, f5, f58, f59]) rfl rfl (by simp [f0, f4, f5, f58, f59]) (.cons (.free (fr40 _)) (.cons (.free (rfl)) (.nil))) (.inl ⟨rfl, rfl⟩) (fun t' ht' => ?_)
          refine Stk.gen (fun t H n => t 0 = .ssl (encs c32 a0) a0.length false ∧ t 4 = .sc (.int .i64 v3) ∧ t 5 = .sc (.int .i64 v10) ∧ t 60 = .sc (.int .i64 x17) ∧ n0 ≤ n) ⟨by simp [ht', f0], by simp [ht', f4], by simp [ht', f5], by simp [ht'], ln0⟩ ?_
          clear f0 f4 f5 f58 f59 ln0 ht' t'
          rintro t H n ⟨f0, f4, f5, f60, ln0⟩
          refine Stk.runD 1 (fun t H n => t 0 = .ssl (encs c32 a0) a0.length false ∧ t 3 = .sc (.int .i64 x17) ∧ t 4 = .sc (.int .i64 v3) ∧ t 5 = .sc (.int .i64 v10) ∧ n0 ≤ n) (fun J hJ => ?_) ?_
          · simp [-splice, f0, f4, f5, f60]
            exact hJ _ _ _ ⟨by simp [f0], by simp [-splice, f0, f4, f5, f60], by simp [f4], by simp [f5], ln0⟩
          clear f0 f4 f5 f60 ln0
          rintro t H n ⟨f0, f3, f4, f5, ln0⟩
          refine Stk.onD ?_
          refine Stk.bn ?_
          refine Stk.rg ?_
          refine Stk.run 3 (fun t H n => t 0 = .ssl (encs c32 a0) a0.length false ∧ t 3 = .sc (.int .i64 x17) ∧ t 4 = .sc (.int .i64 v3) ∧ t 5 = .sc (.int .i64 (IntKind.i64.wrap (v10 + 1)))) (fun J hJ => ?_) ?_
          · simp [-splice, f0, f3, f4, f5]
            exact hJ _ _ _ ⟨by simp [f0], by simp [f3], by simp [f4], by simp [-splice, f0, f3, f4, f5]⟩
          clear f0 f3 f4 f5 ln0
          rintro t H n ⟨f0, f3, f4, f5⟩
          refine Stk.on ?_
          exact Stk.ln μ (Nat.lt_succ_self _) (hJ5 _ _ _ _ ⟨x17, (IntKind.i64.wrap (v10 + 1)), h, f0, f3, f4, f5⟩)
        · have h := cF hb14 h
          refine Stk.ex rfl ?_
          exact Stk.ln 0 (by decide) (hJ4 _ _ _ ⟨v9, h, f0, f3, f4⟩)
      clear h f0 f3 f4 f5
      rintro t H n ⟨v8, h, f0, f3, f4⟩
      subst hK4
      refine Stk.bn ?_
      refine Stk.rg ?_
      refine Stk.run 3 (fun t H n => t 0 = .ssl (encs c32 a0) a0.length false ∧ t 3 = .sc (.int .i64 v8) ∧ t 4 = .sc (.int .i64 (IntKind.i64.wrap (v3 + 1)))) (fun J hJ => ?_) ?_
      · simp [-splice, f0, f3, f4]
        exact hJ _ _ _ ⟨by simp [f0], by simp [f3], by simp [-splice, f0, f3, f4]⟩
      clear f0 f3 f4
      rintro t H n ⟨f0, f3, f4⟩
      refine Stk.on ?_
      exact Stk.ln μ (Nat.lt_succ_self _) (hJ2 _ _ _ _ ⟨v8, (IntKind.i64.wrap (v3 + 1)), h, f0, f3, f4⟩)
    · have h := cF hb6 h
      refine Stk.ex rfl ?_
      exact Stk.ln 0 (by decide) (hJ1 _ _ _ ⟨v2, h, f0, f3⟩)
  clear h f0 f3 f4
  rintro t H n ⟨v1, h, f0, f3⟩
  subst hK1
  refine Stk.sq ?_
  refine Stk.rg ?_
  refine Stk.run 3 (fun t H n => t 0 = .ssl (encs c32 a0) a0.length false ∧ t 63 = .sc (.bool (decide (0 ≤ v1)))) (fun J hJ => ?_) ?_
  · simp [-splice, f0, f3]
    exact hJ _ _ _ ⟨by simp [f0], by simp [-splice, f0, f3]⟩
  clear f0 f3
  rintro t H n ⟨f0, f63⟩
  refine Stk.jo 4 (fun t H n => t 67 = .sc (.bool ((decide (0 ≤ v1)) && (decide ((a0.length : Int) ≤ 60))))) (fun J7 hJ7 => ?_) ?_
  · rcases Bool.eq_false_or_eq_true (decide (0 ≤ v1)) with hb7 | hb7
    · rw [hb7] at f63
      refine Stk.run 4 (fun t H n => t 67 = .sc (.bool (decide ((a0.length : Int) ≤ 60)))) (fun J hJ => ?_) ?_
      · simp [-splice, f0, f63]
        exact hJ _ _ _ (by simp [-splice, f0, f63])
      clear f0 f63
      rintro t H n f67
      refine Stk.on ?_
      exact Stk.ln 0 (by decide) (hJ7 _ _ _ (f67.trans (congrArg (fun q => AV.sc (.bool q)) (by rw [hb7]; rfl))))
    · rw [hb7] at f63
      refine Stk.run 4 (fun t H n => t 67 = .sc (.bool false)) (fun J hJ => ?_) ?_
      · simp [-splice, f0, f63]
        exact hJ _ _ _ (by simp [-splice, f0, f63])
      clear f0 f63
      rintro t H n f67
      refine Stk.on ?_
      exact Stk.ln 0 (by decide) (hJ7 _ _ _ (f67.trans (congrArg (fun q => AV.sc (.bool q)) (by rw [hb7]; rfl))))
  clear f0 f63
  rintro t H n f67
  refine Stk.run 1 (fun t H n => t 2 = .sc (.bool ((decide (0 ≤ v1)) && (decide ((a0.length : Int) ≤ 60))))) (fun J hJ => ?_) ?_
  · simp [-splice, f67]
    exact hJ _ _ _ (by simp [-splice, f67])
  clear f67
  rintro t H n f2
  refine Stk.on ?_
  refine Stk.rt ?_
  have hq := Option.some.inj h; subst hq
  exact (hr _ _ _ (.sc (.bool ((decide (0 ≤ v1)) && (decide ((a0.length : Int) ≤ 60))))) ([]) (by simp [f2]) (.inr (.inr (.free (rfl))))).1
theorem ok_L07_awake (F : Nat) (r : Bool) (h : L07_awake F = some r) : RunF Try.prog T.T 7 [] (.sc (.bool r)) := by
  cases h
  exact RunF.x 4000 (by decide +kernel)
theorem ok_slices_IndexFunc_api_Con_api_Con (F : Nat) (a0 : (List api_Con)) (φ1 : api_Con → Option Bool) (g1 : FuncId) (first1 caps1 : List AV) (fr1 : freeL first1 = true ∧ freeL caps1 = true) (hφ1 : ∀ y0 r, φ1 y0 = some r → RunF Try.prog T.T g1 (first1 ++ [.agg (c35 y0)] ++ caps1) (.sc (.bool r))) (r : Int) (h : slices_IndexFunc_api_Con_api_Con F a0 φ1 = some r) : RunF Try.prog T.T 24 [.ssl (encs c35 a0) a0.length false, .fn (.func g1) first1 caps1] (.sc (.int .i64 r)) := by
  rw [slices_IndexFunc_api_Con_api_Con] at h
  refine RunF.z Try.func24 rfl rfl rfl rfl rfl (fun C hr => ?_)
  refine Stk.gen (fun t H n => t 0 = .ssl (encs c35 a0) a0.length false ∧ t 1 = .fn (.func g1) first1 caps1) ⟨by simp, by simp⟩ ?_
  rintro t H n ⟨f0, f1⟩
  refine Stk.sq ?_
  refine Stk.rg ?_
  refine Stk.run 1 (fun t H n => t 0 = .ssl (encs c35 a0) a0.length false ∧ t 1 = .fn (.func g1) first1 caps1) (fun J hJ => ?_) ?_
  · simp [-splice, f0, f1]
    exact hJ _ _ _ ⟨by simp [f0], by simp [f1]⟩
  clear f0 f1
  rintro t H n ⟨f0, f1⟩
  refine Stk.on ?_
  refine Stk.sq ?_
  refine Stk.sq ?_
  refine Stk.rg ?_
  refine Stk.run 3 (fun t H n => t 0 = .ssl (encs c35 a0) a0.length false ∧ t 1 = .fn (.func g1) first1 caps1 ∧ t 7 = .sc (.int .i64 (a0.length : Int)) ∧ t 8 = .sc (.int .i64 0)) (fun J hJ => ?_) ?_
  · simp [-splice, f0, f1]
    exact hJ _ _ _ ⟨by simp [f0], by simp [f1], by simp [-splice, f0, f1], by simp [-splice, f0, f1]⟩
  clear f0 f1
  rintro t H n ⟨f0, f1, f7, f8⟩
  refine Stk.on ?_
  refine Stk.bk ?_
  refine Stk.lo (fun μ t H n => ∃ v1 : Int, slices_IndexFunc_api_Con_api_Con_L0 F a0 φ1 μ v1 = some r ∧ t 0 = .ssl (encs c35 a0) a0.length false ∧ t 1 = .fn (.func g1) first1 caps1 ∧ t 7 = .sc (.int .i64 (a0.length : Int)) ∧ t 8 = .sc (.int .i64 v1)) F ⟨0, h, f0, f1, f7, f8⟩ ?_
  clear h f0 f1 f7 f8
  rintro J1 hJ1 μ t H n ⟨v1, h, f0, f1, f7, f8⟩
  cases μ with
  | zero => exact absurd h (by simp [slices_IndexFunc_api_Con_api_Con_L0])
  | succ μ =>
  rw [slices_IndexFunc_api_Con_api_Con_L0] at h
  refine Stk.sq ?_
  refine Stk.rg ?_
  refine Stk.run 1 (fun t H n => t 0 = .ssl (encs c35 a0) a0.length false ∧ t 1 = .fn (.func g1) first1 caps1 ∧ t 7 = .sc (.int .i64 (a0.length : Int)) ∧ t 8 = .sc (.int .i64 v1) ∧ t 9 = .sc (.bool (decide (v1 < (a0.length : Int))))) (fun J hJ => ?_) ?_
  · simp [-splice, f0, f1, f7, f8]
    exact hJ _ _ _ ⟨by simp [f0], by simp [f1], by simp [f7], by simp [f8], by simp [-splice, f0, f1, f7, f8]⟩
  clear f0 f1 f7 f8
  rintro t H n ⟨f0, f1, f7, f8, f9⟩
  refine Stk.on ?_
  refine Stk.sq ?_
  refine Stk.cond (decide (v1 < (a0.length : Int))) (by exact f9) (fun hb3 => ?_) (fun hb3 => ?_)
  · have h := cT hb3 h
    refine Stk.sk ?_
    refine Stk.sq ?_
    refine Stk.bk ?_
    refine Stk.sq ?_
    refine Stk.rg ?_
    refine Stk.run 2 (fun t H n => t 0 = .ssl (encs c35 a0) a0.length false ∧ t 1 = .fn (.func g1) first1 caps1 ∧ t 5 = .sc (.int .i64 v1) ∧ t 7 = .sc (.int .i64 (a0.length : Int)) ∧ t 8 = .sc (.int .i64 v1)) (fun J hJ => ?_) ?_
    · simp [-splice, f0, f1, f7, f8, f9]
      exact hJ _ _ _ ⟨by simp [f0], by simp [f1], by simp [-splice, f0, f1, f7, f8, f9], by simp [f7], by simp [f8]⟩
    clear f0 f1 f7 f8 f9
    rintro t H n ⟨f0, f1, f5, f7, f8⟩
    refine Stk.on ?_
    refine Stk.sq ?_
    refine Stk.rg ?_
    obtain ⟨x4, hx4, h⟩ := bnd h
    obtain ⟨i0x4, i1x4, i2x4, _⟩ := idx_ok hx4
    have ex4_0_35 : partOf T.T 35 (encs c35 a0) (v1.toNat * 2) = some (.agg (c35 x4)) := by
        have e0 := part_elem0 (e := c35) (z := 2) (T := T.T) (ty := 35) T.t35 (by decide) (by decide) hx4 0 (by decide)
        (try simp only [Nat.mul_one, Nat.add_zero] at e0)
        exact e0.trans (ld_35_0_35 _)
    refine Stk.run 5 (fun t H n => t 0 = .ssl (encs c35 a0) a0.length false ∧ t 1 = .fn (.func g1) first1 caps1 ∧ t 5 = .sc (.int .i64 v1) ∧ t 7 = .sc (.int .i64 (a0.length : Int)) ∧ t 8 = .sc (.int .i64 v1) ∧ t 11 = .fn (.func g1) first1 caps1 ∧ t 15 = .agg (c35 x4)) (fun J hJ => ?_) ?_
    · simp [-splice, f0, f1, f5, f7, f8, i0x4, i1x4, pd35, ex4_0_35]
      exact hJ _ _ _ ⟨by simp [f0], by simp [f1], by simp [f5], by simp [f7], by simp [f8], by simp [-splice, f0, f1, f5, f7, f8, i0x4, i1x4, pd35, ex4_0_35], by simp [-splice, f0, f1, f5, f7, f8, i0x4, i1x4, pd35, ex4_0_35]⟩
    clear f0 f1 f5 f7 f8
    rintro t H n ⟨f0, f1, f5, f7, f8, f11, f15⟩
    obtain ⟨x5, hx5, h⟩ := bnd h
    refine Stk.cv (g := g1) (args := first1 ++ [.agg (c35 x4)] ++ caps1) (args' := first1 ++ [.agg (c35 x4)] ++ caps1) (v := .sc (.bool x5)) [] (hφ1 _ _ hx5) (by simp [f0, f1, f5, f7, f8, f11, f15]) rfl f11 (by simp [f0, f1, f5, f7, f8, f11, f15]) (viewL_mid (x := [.agg (c35 x4)]) (y := [.agg (c35 x4)]) fr1.1 fr1.2 (.cons (.free (fr35 _)) (.nil))) (.inl ⟨rfl, rfl⟩) (fun t' ht' => ?_)
    refine Stk.gen (fun t H n => t 0 = .ssl (encs c35 a0) a0.length false ∧ t 1 = .fn (.func g1) first1 caps1 ∧ t 5 = .sc (.int .i64 v1) ∧ t 7 = .sc (.int .i64 (a0.length : Int)) ∧ t 8 = .sc (.int .i64 v1) ∧ t 16 = .sc (.bool x5)) ⟨by simp [ht', f0], by simp [ht', f1], by simp [ht', f5], by simp [ht', f7], by simp [ht', f8], by simp [ht']⟩ ?_
    clear f0 f1 f5 f7 f8 f11 f15 ht' t'
    rintro t H n ⟨f0, f1, f5, f7, f8, f16⟩
    refine Stk.on ?_
    refine Stk.cond x5 (by exact f16) (fun hb6 => ?_) (fun hb6 => ?_)
    · have h := cT hb6 h
      refine Stk.sq ?_
      refine Stk.rg ?_
      refine Stk.run 2 (fun t H n => t 4 = .sc (.int .i64 v1)) (fun J hJ => ?_) ?_
      · simp [-splice, f0, f1, f5, f7, f8, f16]
        exact hJ _ _ _ (by simp [-splice, f0, f1, f5, f7, f8, f16])
      clear f0 f1 f5 f7 f8 f16
      rintro t H n f4
      refine Stk.on ?_
      refine Stk.rt ?_
      have hq := Option.some.inj h; subst hq
      exact (hr _ _ _ (.sc (.int .i64 v1)) ([]) (by simp [f4]) (.inr (.inr (.free (rfl))))).1
    · have h := cF hb6 h
      refine Stk.sk ?_
      refine Stk.bn ?_
      refine Stk.rg ?_
      refine Stk.run 2 (fun t H n => t 0 = .ssl (encs c35 a0) a0.length false ∧ t 1 = .fn (.func g1) first1 caps1 ∧ t 7 = .sc (.int .i64 (a0.length : Int)) ∧ t 8 = .sc (.int .i64 (IntKind.i64.wrap (v1 + 1)))) (fun J hJ => ?_) ?_
      · simp [-splice, f0, f1, f5, f7, f8, f16]
        exact hJ _ _ _ ⟨by simp [f0], by simp [f1], by simp [f7], by simp [-splice, f0, f1, f5, f7, f8, f16]⟩
      clear f0 f1 f5 f7 f8 f16
      rintro t H n ⟨f0, f1, f7, f8⟩
      refine Stk.on ?_
      exact Stk.ln μ (Nat.lt_succ_self _) (hJ1 _ _ _ _ ⟨(IntKind.i64.wrap (v1 + 1)), h, f0, f1, f7, f8⟩)
  · have h := cF hb3 h
    refine Stk.ex rfl ?_
    refine Stk.sq ?_
    refine Stk.rg ?_
    refine Stk.run 1 (fun t H n => t 4 = .sc (.int .i64 (-1))) (fun J hJ => ?_) ?_
    · simp [-splice, f0, f1, f7, f8, f9]
      exact hJ _ _ _ (by simp [-splice, f0, f1, f7, f8, f9])
    clear f0 f1 f7 f8 f9
    rintro t H n f4
    refine Stk.on ?_
    refine Stk.rt ?_
    have hq := Option.some.inj h; subst hq
    exact (hr _ _ _ (.sc (.int .i64 (-1))) ([]) (by simp [f4]) (.inr (.inr (.free (rfl))))).1
theorem ok_ty_Con_1 (F : Nat) (a0 : api_Con) (a1 : ByteArray) (r : Bool) (h : ty_Con_1 F a0 a1 = some r) : RunF Try.prog T.T 25 [.agg (c35 a0), .sh (c9 a1)] (.sc (.bool r)) := by
  rw [ty_Con_1] at h
  refine RunF.z Try.func25 rfl rfl rfl rfl rfl (fun C hr => ?_)
  refine Stk.gen (fun t H n => t 0 = .agg (c35 a0) ∧ t 1 = .sh (c9 a1)) ⟨by simp, by simp⟩ ?_
  rintro t H n ⟨f0, f1⟩
  refine Stk.sq ?_
  refine Stk.rg ?_
  refine Stk.om (mop_box T.t35 (cs := c35 a0) (by show partOk (t 0) = true; rw [f0]; rfl) (by show cellsOf (t 0) = _; rw [f0]; rfl)) (by simp [f0, f1]) rfl (fun t' ht' => ?_)
  refine Stk.gen (fun t H n => ∃ b1, t 1 = .sh (c9 a1) ∧ t 2 = .own b1 0 ∧ H b1 = some (.cells (c35 a0) 35) ∧ b1 < n) ⟨n, by simp [ht', f1], by simp [ht'], upd_same _ _ _, Nat.lt_succ_self _⟩ ?_
  clear f0 f1 ht' t'
  rintro t H n ⟨b1, f1, f2, b_b1, l_b1⟩
  refine Stk.run 1 (fun t H n => t 1 = .sh (c9 a1) ∧ t 2 = .own b1 0 ∧ H b1 = some (.cells (c35 a0) 35) ∧ b1 < n) (fun J hJ => ?_) ?_
  · simp [-splice, f1, f2, b_b1]
    exact hJ _ _ _ ⟨by simp [f1], by simp [f2], b_b1, l_b1⟩
  clear f1 f2 b_b1 l_b1
  rintro t H n ⟨f1, f2, b_b1, l_b1⟩
  refine Stk.on ?_
  refine Stk.sq ?_
  refine Stk.rg ?_
  refine Stk.run 5 (fun t H n => t 3 = .sc (.bool (a0.Name.toList == a1.toList))) (fun J hJ => ?_) ?_
  · simp [-splice, f1, f2, b_b1, ld_35_0_9, pd9, ld_9_0_9]
    exact hJ _ _ _ (by simp [-splice, f1, f2, b_b1, ld_35_0_9, pd9, ld_9_0_9])
  clear f1 f2 b_b1 l_b1
  rintro t H n f3
  refine Stk.on ?_
  refine Stk.rt ?_
  have hq := Option.some.inj h; subst hq
  exact (hr _ _ _ (.sc (.bool (a0.Name.toList == a1.toList))) ([]) (by simp [f3]) (.inr (.inr (.free (rfl))))).1
end Go.Proofs.Ytappiofmkoelnaa.M
