/-
  The functions come to them.
-/
import Derived.Test.YtappiofmkoelnaaTtM
namespace Go.Proofs.Ytappiofmkoelnaa.M
open Go.Proofs.YtappiofmkoelnaaW.Ah Go.Proofs.Ytappiofmkoelnaa
set_option linter.unusedVariables false
set_option linter.unusedSimpArgs false
set_option maxRecDepth 8000
attribute [local simp] T.t3 T.t9 T.t33 T.t40 T.t44 T.t45 T.t46 T.t48 T.t85 T.t87 T.t89 List.range List.range.loop
attribute [-simp] appendAV fillAV
theorem okB_R04_LightType (F : Nat) (ρ14 : api_Type → Int → Option Int) (hρ14 : ∀ a0 a1 r, ρ14 a0 a1 = some r → RunF Try.prog T.T 14 [.agg (c40 a0), .sc (.int .i64 a1)] (.sc (.int .i64 r))) (a0 : api_Type) (a1 : Int) (r : Int) (h : R04_LightType_B F ρ14 a0 a1 = some r) : RunF Try.prog T.T 14 [.agg (c40 a0), .sc (.int .i64 a1)] (.sc (.int .i64 r)) := by
  rw [R04_LightType_B] at h
  refine RunF.z Try.func14 rfl rfl rfl rfl rfl (fun C hr => ?_)
  refine Stk.gen (fun t H n => t 0 = .agg (c40 a0) ∧ t 1 = .sc (.int .i64 a1)) ⟨by simp, by simp⟩ ?_
  rintro t H n ⟨f0, f1⟩
  refine Stk.sq ?_
  refine Stk.rg ?_
  refine Stk.om (mop_box T.t40 (cs := c40 a0) (by show partOk (t 0) = true; rw [f0]; rfl) (by show cellsOf (t 0) = _; rw [f0]; rfl)) (by simp [f0, f1]) rfl (fun t' ht' => ?_)
  refine Stk.gen (fun t H n => ∃ b1, t 1 = .sc (.int .i64 a1) ∧ t 2 = .own b1 0 ∧ H b1 = some (.cells (c40 a0) 40) ∧ b1 < n) ⟨n, by simp [ht', f1], by simp [ht'], upd_same _ _ _, Nat.lt_succ_self _⟩ ?_
  clear f0 f1 ht' t'
  rintro t H n ⟨b1, f1, f2, b_b1, l_b1⟩
  refine Stk.run 1 (fun t H n => t 1 = .sc (.int .i64 a1) ∧ t 2 = .own b1 0 ∧ H b1 = some (.cells (c40 a0) 40) ∧ b1 < n) (fun J hJ => ?_) ?_
  · simp [-splice, f1, f2, b_b1]
    exact hJ _ _ _ ⟨by simp [f1], by simp [f2], b_b1, l_b1⟩
  clear f1 f2 b_b1 l_b1
  rintro t H n ⟨f1, f2, b_b1, l_b1⟩
  refine Stk.on ?_
  refine Stk.sq ?_
  refine Stk.rg ?_
  refine Stk.run 8 (fun t H n => t 1 = .sc (.int .i64 (IntKind.i64.wrap ((IntKind.i64.wrap (a1 - 1)) - (if 1048576 < (a0.Name.size : Int) then 1048576 else (a0.Name.size : Int))))) ∧ t 2 = .own b1 0 ∧ H b1 = some (.cells (c40 a0) 40) ∧ b1 < n) (fun J hJ => ?_) ?_
  · simp [-splice, f1, f2, b_b1, ld_40_1_9]
    exact hJ _ _ _ ⟨by simp [-splice, f1, f2, b_b1, ld_40_1_9], by simp [f2], b_b1, l_b1⟩
  clear f1 f2 b_b1 l_b1
  rintro t H n ⟨f1, f2, b_b1, l_b1⟩
  refine Stk.on ?_
  refine Stk.sq ?_
  refine Stk.sq ?_
  refine Stk.rg ?_
  refine Stk.run 1 (fun t H n => t 1 = .sc (.int .i64 (IntKind.i64.wrap ((IntKind.i64.wrap (a1 - 1)) - (if 1048576 < (a0.Name.size : Int) then 1048576 else (a0.Name.size : Int))))) ∧ t 2 = .own b1 0 ∧ t 5 = .sc (.int .i64 0) ∧ H b1 = some (.cells (c40 a0) 40) ∧ b1 < n) (fun J hJ => ?_) ?_
  · simp [-splice, f1, f2, b_b1]
    exact hJ _ _ _ ⟨by simp [f1], by simp [f2], by simp [-splice, f1, f2, b_b1], b_b1, l_b1⟩
  clear f1 f2 b_b1 l_b1
  rintro t H n ⟨f1, f2, f5, b_b1, l_b1⟩
  refine Stk.on ?_
  refine Stk.bk ?_
  refine Stk.lo (fun μ t H n => ∃ v2 : Int, ∃ v3 : Int, R04_LightType_L0 F ρ14 a0 μ v2 v3 = some r ∧ t 1 = .sc (.int .i64 v2) ∧ t 2 = .own b1 0 ∧ t 5 = .sc (.int .i64 v3) ∧ H b1 = some (.cells (c40 a0) 40) ∧ b1 < n) F ⟨(IntKind.i64.wrap ((IntKind.i64.wrap (a1 - 1)) - (if 1048576 < (a0.Name.size : Int) then 1048576 else (a0.Name.size : Int)))), 0, h, f1, f2, f5, b_b1, l_b1⟩ ?_
  clear h f1 f2 f5 b_b1 l_b1
  rintro J1 hJ1 μ t H n ⟨v2, v3, h, f1, f2, f5, b_b1, l_b1⟩
  cases μ with
  | zero => exact absurd h (by simp [R04_LightType_L0])
  | succ μ =>
  rw [R04_LightType_L0] at h
  refine Stk.sq ?_
  refine Stk.sq ?_
  refine Stk.rg ?_
  refine Stk.run 6 (fun t H n => t 1 = .sc (.int .i64 v2) ∧ t 2 = .own b1 0 ∧ t 5 = .sc (.int .i64 v3) ∧ t 18 = .sc (.bool (decide (v3 < (a0.Parts.length : Int)))) ∧ H b1 = some (.cells (c40 a0) 40) ∧ b1 < n) (fun J hJ => ?_) ?_
  · simp [-splice, f1, f2, f5, b_b1, ld_40_2_33]
    exact hJ _ _ _ ⟨by simp [f1], by simp [f2], by simp [f5], by simp [-splice, f1, f2, f5, b_b1, ld_40_2_33], b_b1, l_b1⟩
  clear f1 f2 f5 b_b1 l_b1
  rintro t H n ⟨f1, f2, f5, f18, b_b1, l_b1⟩
  refine Stk.jo 3 (fun t H n => t 1 = .sc (.int .i64 v2) ∧ t 2 = .own b1 0 ∧ t 5 = .sc (.int .i64 v3) ∧ t 21 = .sc (.bool ((decide (v3 < (a0.Parts.length : Int))) && (decide (0 ≤ v2)))) ∧ H b1 = some (.cells (c40 a0) 40) ∧ b1 < n) (fun J2 hJ2 => ?_) ?_
  · rcases Bool.eq_false_or_eq_true (decide (v3 < (a0.Parts.length : Int))) with hb2 | hb2
    · rw [hb2] at f18
      refine Stk.run 3 (fun t H n => t 1 = .sc (.int .i64 v2) ∧ t 2 = .own b1 0 ∧ t 5 = .sc (.int .i64 v3) ∧ t 21 = .sc (.bool (decide (0 ≤ v2))) ∧ H b1 = some (.cells (c40 a0) 40) ∧ b1 < n) (fun J hJ => ?_) ?_
      · simp [-splice, f1, f2, f5, f18, b_b1]
        exact hJ _ _ _ ⟨by simp [f1], by simp [f2], by simp [f5], by simp [-splice, f1, f2, f5, f18, b_b1], b_b1, l_b1⟩
      clear f1 f2 f5 f18 b_b1 l_b1
      rintro t H n ⟨f1, f2, f5, f21, b_b1, l_b1⟩
      refine Stk.on ?_
      exact Stk.ln 0 (by decide) (hJ2 _ _ _ ⟨f1, f2, f5, f21.trans (congrArg (fun q => AV.sc (.bool q)) (by rw [hb2]; rfl)), b_b1, l_b1⟩)
    · rw [hb2] at f18
      refine Stk.run 3 (fun t H n => t 1 = .sc (.int .i64 v2) ∧ t 2 = .own b1 0 ∧ t 5 = .sc (.int .i64 v3) ∧ t 21 = .sc (.bool false) ∧ H b1 = some (.cells (c40 a0) 40) ∧ b1 < n) (fun J hJ => ?_) ?_
      · simp [-splice, f1, f2, f5, f18, b_b1]
        exact hJ _ _ _ ⟨by simp [f1], by simp [f2], by simp [f5], by simp [-splice, f1, f2, f5, f18, b_b1], b_b1, l_b1⟩
      clear f1 f2 f5 f18 b_b1 l_b1
      rintro t H n ⟨f1, f2, f5, f21, b_b1, l_b1⟩
      refine Stk.on ?_
      exact Stk.ln 0 (by decide) (hJ2 _ _ _ ⟨f1, f2, f5, f21.trans (congrArg (fun q => AV.sc (.bool q)) (by rw [hb2]; rfl)), b_b1, l_b1⟩)
  clear f1 f2 f5 f18 b_b1 l_b1
  rintro t H n ⟨f1, f2, f5, f21, b_b1, l_b1⟩
  refine Stk.on ?_
  refine Stk.cond ((decide (v3 < (a0.Parts.length : Int))) && (decide (0 ≤ v2))) (by exact f21) (fun hb6 => ?_) (fun hb6 => ?_)
  · have h := cT hb6 h
    refine Stk.sk ?_
    refine Stk.sq ?_
    refine Stk.bk ?_
    refine Stk.rg ?_
    obtain ⟨x7, hx7, h⟩ := bnd h
    obtain ⟨i0x7, i1x7, i2x7, _⟩ := idx_ok hx7
    have ex7_0_40 : partOf T.T 40 (encs c40 a0.Parts) (v3.toNat * 3) = some (.agg (c40 x7)) := by
        have e0 := part_elem0 (e := c40) (z := 3) (T := T.T) (ty := 40) T.t40 (by decide) (by decide) hx7 0 (by decide)
        (try simp only [Nat.mul_one, Nat.add_zero] at e0)
        exact e0.trans (ld_40_0_40 _)
    refine Stk.run 6 (fun t H n => t 2 = .own b1 0 ∧ t 5 = .sc (.int .i64 v3) ∧ t 28 = .agg (c40 x7) ∧ t 29 = .sc (.int .i64 v2) ∧ H b1 = some (.cells (c40 a0) 40) ∧ b1 < n) (fun J hJ => ?_) ?_
    · simp [-splice, f1, f2, f5, f21, b_b1, ld_40_2_33, i0x7, i1x7, pd40, ex7_0_40]
      exact hJ _ _ _ ⟨by simp [f2], by simp [f5], by simp [-splice, f1, f2, f5, f21, b_b1, ld_40_2_33, i0x7, i1x7, pd40, ex7_0_40], by simp [-splice, f1, f2, f5, f21, b_b1, ld_40_2_33, i0x7, i1x7, pd40, ex7_0_40], b_b1, l_b1⟩
    clear f1 f2 f5 f21 b_b1 l_b1
    rintro t H n ⟨f2, f5, f28, f29, b_b1, l_b1⟩
    obtain ⟨x8, hx8, h⟩ := bnd h
    refine Stk.cv (g := 14) (args := [.agg (c40 x7), .sc (.int .i64 v2)]) (args' := [.agg (c40 x7), .sc (.int .i64 v2)]) (v := .sc (.int .i64 x8)) [] (hρ14 _ _ _ hx8) (by simp [f2, f5, f28, f29]) rfl rfl (by simp [f2, f5, f28, f29]) (.cons (.free (fr40 _)) (.cons (.free (rfl)) (.nil))) (.inl ⟨rfl, rfl⟩) (fun t' ht' => ?_)
    refine Stk.gen (fun t H n => t 2 = .own b1 0 ∧ t 5 = .sc (.int .i64 v3) ∧ t 30 = .sc (.int .i64 x8) ∧ H b1 = some (.cells (c40 a0) 40) ∧ b1 < n) ⟨by simp [ht', f2], by simp [ht', f5], by simp [ht'], b_b1, l_b1⟩ ?_
    clear f2 f5 f28 f29 b_b1 l_b1 ht' t'
    rintro t H n ⟨f2, f5, f30, b_b1, l_b1⟩
    refine Stk.run 1 (fun t H n => t 1 = .sc (.int .i64 x8) ∧ t 2 = .own b1 0 ∧ t 5 = .sc (.int .i64 v3) ∧ H b1 = some (.cells (c40 a0) 40) ∧ b1 < n) (fun J hJ => ?_) ?_
    · simp [-splice, f2, f5, f30, b_b1]
      exact hJ _ _ _ ⟨by simp [-splice, f2, f5, f30, b_b1], by simp [f2], by simp [f5], b_b1, l_b1⟩
    clear f2 f5 f30 b_b1 l_b1
    rintro t H n ⟨f1, f2, f5, b_b1, l_b1⟩
    refine Stk.on ?_
    refine Stk.bn ?_
    refine Stk.rg ?_
    refine Stk.run 3 (fun t H n => t 1 = .sc (.int .i64 x8) ∧ t 2 = .own b1 0 ∧ t 5 = .sc (.int .i64 (IntKind.i64.wrap (v3 + 1))) ∧ H b1 = some (.cells (c40 a0) 40) ∧ b1 < n) (fun J hJ => ?_) ?_
    · simp [-splice, f1, f2, f5, b_b1]
      exact hJ _ _ _ ⟨by simp [f1], by simp [f2], by simp [-splice, f1, f2, f5, b_b1], b_b1, l_b1⟩
    clear f1 f2 f5 b_b1 l_b1
    rintro t H n ⟨f1, f2, f5, b_b1, l_b1⟩
    refine Stk.on ?_
    exact Stk.ln μ (Nat.lt_succ_self _) (hJ1 _ _ _ _ ⟨x8, (IntKind.i64.wrap (v3 + 1)), h, f1, f2, f5, b_b1, l_b1⟩)
  · have h := cF hb6 h
    refine Stk.ex rfl ?_
    refine Stk.sq ?_
    refine Stk.rg ?_
    refine Stk.run 2 (fun t H n => t 4 = .sc (.int .i64 v2)) (fun J hJ => ?_) ?_
    · simp [-splice, f1, f2, f5, f21, b_b1]
      exact hJ _ _ _ (by simp [-splice, f1, f2, f5, f21, b_b1])
    clear f1 f2 f5 f21 b_b1 l_b1
    rintro t H n f4
    refine Stk.on ?_
    refine Stk.rt ?_
    have hq := Option.some.inj h; subst hq
    exact (hr _ _ _ (.sc (.int .i64 v2)) ([]) (by simp [f4]) (.inr (.inr (.free (rfl))))).1
theorem okG_R04_LightType : ∀ F : Nat, (∀ (a0 : api_Type) (a1 : Int) (r : Int), R04_LightType F a0 a1 = some r → RunF Try.prog T.T 14 [.agg (c40 a0), .sc (.int .i64 a1)] (.sc (.int .i64 r)))
  | 0 => (fun a0 a1 r h => by rw [R04_LightType] at h; cases h)
  | F + 1 => (fun a0 a1 r h => okB_R04_LightType F (R04_LightType F) (okG_R04_LightType F) a0 a1 r (by rw [R04_LightType] at h; exact h))
theorem ok_R04_LightType (F : Nat) (a0 : api_Type) (a1 : Int) (r : Int) (h : R04_LightType F a0 a1 = some r) : RunF Try.prog T.T 14 [.agg (c40 a0), .sc (.int .i64 a1)] (.sc (.int .i64 r)) := (okG_R04_LightType F) a0 a1 r h

theorem okB_R04_LightPat (F : Nat) (ρ41 : api_Pat → Int → Option Int) (hρ41 : ∀ a0 a1 r, ρ41 a0 a1 = some r → RunF Try.prog T.T 41 [.agg (c87 a0), .sc (.int .i64 a1)] (.sc (.int .i64 r))) (a0 : api_Pat) (a1 : Int) (r : Int) (h : R04_LightPat_B F ρ41 a0 a1 = some r) : RunF Try.prog T.T 41 [.agg (c87 a0), .sc (.int .i64 a1)] (.sc (.int .i64 r)) := by
  rw [R04_LightPat_B] at h
  refine RunF.z Try.func41 rfl rfl rfl rfl rfl (fun C hr => ?_)
  refine Stk.gen (fun t H n => t 0 = .agg (c87 a0) ∧ t 1 = .sc (.int .i64 a1)) ⟨by simp, by simp⟩ ?_
  rintro t H n ⟨f0, f1⟩
  refine Stk.sq ?_
  refine Stk.rg ?_
  refine Stk.om (mop_box T.t87 (cs := c87 a0) (by show partOk (t 0) = true; rw [f0]; rfl) (by show cellsOf (t 0) = _; rw [f0]; rfl)) (by simp [f0, f1]) rfl (fun t' ht' => ?_)
  refine Stk.gen (fun t H n => ∃ b1, t 1 = .sc (.int .i64 a1) ∧ t 2 = .own b1 0 ∧ H b1 = some (.cells (c87 a0) 87) ∧ b1 < n) ⟨n, by simp [ht', f1], by simp [ht'], upd_same _ _ _, Nat.lt_succ_self _⟩ ?_
  clear f0 f1 ht' t'
  rintro t H n ⟨b1, f1, f2, b_b1, l_b1⟩
  refine Stk.run 1 (fun t H n => t 1 = .sc (.int .i64 a1) ∧ t 2 = .own b1 0 ∧ H b1 = some (.cells (c87 a0) 87) ∧ b1 < n) (fun J hJ => ?_) ?_
  · simp [-splice, f1, f2, b_b1]
    exact hJ _ _ _ ⟨by simp [f1], by simp [f2], b_b1, l_b1⟩
  clear f1 f2 b_b1 l_b1
  rintro t H n ⟨f1, f2, b_b1, l_b1⟩
  refine Stk.on ?_
  refine Stk.sq ?_
  refine Stk.rg ?_
  refine Stk.run 8 (fun t H n => t 1 = .sc (.int .i64 (IntKind.i64.wrap ((IntKind.i64.wrap (a1 - 1)) - (if 1048576 < (a0.Name.size : Int) then 1048576 else (a0.Name.size : Int))))) ∧ t 2 = .own b1 0 ∧ H b1 = some (.cells (c87 a0) 87) ∧ b1 < n) (fun J hJ => ?_) ?_
  · simp [-splice, f1, f2, b_b1, ld_87_3_9]
    exact hJ _ _ _ ⟨by simp [-splice, f1, f2, b_b1, ld_87_3_9], by simp [f2], b_b1, l_b1⟩
  clear f1 f2 b_b1 l_b1
  rintro t H n ⟨f1, f2, b_b1, l_b1⟩
  refine Stk.on ?_
  refine Stk.sq ?_
  refine Stk.sq ?_
  refine Stk.rg ?_
  refine Stk.run 1 (fun t H n => t 1 = .sc (.int .i64 (IntKind.i64.wrap ((IntKind.i64.wrap (a1 - 1)) - (if 1048576 < (a0.Name.size : Int) then 1048576 else (a0.Name.size : Int))))) ∧ t 2 = .own b1 0 ∧ t 5 = .sc (.int .i64 0) ∧ H b1 = some (.cells (c87 a0) 87) ∧ b1 < n) (fun J hJ => ?_) ?_
  · simp [-splice, f1, f2, b_b1]
    exact hJ _ _ _ ⟨by simp [f1], by simp [f2], by simp [-splice, f1, f2, b_b1], b_b1, l_b1⟩
  clear f1 f2 b_b1 l_b1
  rintro t H n ⟨f1, f2, f5, b_b1, l_b1⟩
  refine Stk.on ?_
  refine Stk.bk ?_
  refine Stk.lo (fun μ t H n => ∃ v2 : Int, ∃ v3 : Int, R04_LightPat_L0 F ρ41 a0 μ v2 v3 = some r ∧ t 1 = .sc (.int .i64 v2) ∧ t 2 = .own b1 0 ∧ t 5 = .sc (.int .i64 v3) ∧ H b1 = some (.cells (c87 a0) 87) ∧ b1 < n) F ⟨(IntKind.i64.wrap ((IntKind.i64.wrap (a1 - 1)) - (if 1048576 < (a0.Name.size : Int) then 1048576 else (a0.Name.size : Int)))), 0, h, f1, f2, f5, b_b1, l_b1⟩ ?_
  clear h f1 f2 f5 b_b1 l_b1
  rintro J1 hJ1 μ t H n ⟨v2, v3, h, f1, f2, f5, b_b1, l_b1⟩
  cases μ with
  | zero => exact absurd h (by simp [R04_LightPat_L0])
  | succ μ =>
  rw [R04_LightPat_L0] at h
  refine Stk.sq ?_
  refine Stk.sq ?_
  refine Stk.rg ?_
  refine Stk.run 6 (fun t H n => t 1 = .sc (.int .i64 v2) ∧ t 2 = .own b1 0 ∧ t 5 = .sc (.int .i64 v3) ∧ t 18 = .sc (.bool (decide (v3 < (a0.Kids.length : Int)))) ∧ H b1 = some (.cells (c87 a0) 87) ∧ b1 < n) (fun J hJ => ?_) ?_
  · simp [-splice, f1, f2, f5, b_b1, ld_87_5_85]
    exact hJ _ _ _ ⟨by simp [f1], by simp [f2], by simp [f5], by simp [-splice, f1, f2, f5, b_b1, ld_87_5_85], b_b1, l_b1⟩
  clear f1 f2 f5 b_b1 l_b1
  rintro t H n ⟨f1, f2, f5, f18, b_b1, l_b1⟩
  refine Stk.jo 3 (fun t H n => t 1 = .sc (.int .i64 v2) ∧ t 2 = .own b1 0 ∧ t 5 = .sc (.int .i64 v3) ∧ t 21 = .sc (.bool ((decide (v3 < (a0.Kids.length : Int))) && (decide (0 ≤ v2)))) ∧ H b1 = some (.cells (c87 a0) 87) ∧ b1 < n) (fun J2 hJ2 => ?_) ?_
  · rcases Bool.eq_false_or_eq_true (decide (v3 < (a0.Kids.length : Int))) with hb2 | hb2
    · rw [hb2] at f18
      refine Stk.run 3 (fun t H n => t 1 = .sc (.int .i64 v2) ∧ t 2 = .own b1 0 ∧ t 5 = .sc (.int .i64 v3) ∧ t 21 = .sc (.bool (decide (0 ≤ v2))) ∧ H b1 = some (.cells (c87 a0) 87) ∧ b1 < n) (fun J hJ => ?_) ?_
      · simp [-splice, f1, f2, f5, f18, b_b1]
        exact hJ _ _ _ ⟨by simp [f1], by simp [f2], by simp [f5], by simp [-splice, f1, f2, f5, f18, b_b1], b_b1, l_b1⟩
      clear f1 f2 f5 f18 b_b1 l_b1
      rintro t H n ⟨f1, f2, f5, f21, b_b1, l_b1⟩
      refine Stk.on ?_
      exact Stk.ln 0 (by decide) (hJ2 _ _ _ ⟨f1, f2, f5, f21.trans (congrArg (fun q => AV.sc (.bool q)) (by rw [hb2]; rfl)), b_b1, l_b1⟩)
    · rw [hb2] at f18
      refine Stk.run 3 (fun t H n => t 1 = .sc (.int .i64 v2) ∧ t 2 = .own b1 0 ∧ t 5 = .sc (.int .i64 v3) ∧ t 21 = .sc (.bool false) ∧ H b1 = some (.cells (c87 a0) 87) ∧ b1 < n) (fun J hJ => ?_) ?_
      · simp [-splice, f1, f2, f5, f18, b_b1]
        exact hJ _ _ _ ⟨by simp [f1], by simp [f2], by simp [f5], by simp [-splice, f1, f2, f5, f18, b_b1], b_b1, l_b1⟩
      clear f1 f2 f5 f18 b_b1 l_b1
      rintro t H n ⟨f1, f2, f5, f21, b_b1, l_b1⟩
      refine Stk.on ?_
      exact Stk.ln 0 (by decide) (hJ2 _ _ _ ⟨f1, f2, f5, f21.trans (congrArg (fun q => AV.sc (.bool q)) (by rw [hb2]; rfl)), b_b1, l_b1⟩)
  clear f1 f2 f5 f18 b_b1 l_b1
  rintro t H n ⟨f1, f2, f5, f21, b_b1, l_b1⟩
  refine Stk.on ?_
  refine Stk.cond ((decide (v3 < (a0.Kids.length : Int))) && (decide (0 ≤ v2))) (by exact f21) (fun hb6 => ?_) (fun hb6 => ?_)
  · have h := cT hb6 h
    refine Stk.sk ?_
    refine Stk.sq ?_
    refine Stk.bk ?_
    refine Stk.rg ?_
    obtain ⟨x7, hx7, h⟩ := bnd h
    obtain ⟨i0x7, i1x7, i2x7, _⟩ := idx_ok hx7
    have ex7_0_87 : partOf T.T 87 (encs c87 a0.Kids) (v3.toNat * 6) = some (.agg (c87 x7)) := by
        have e0 := part_elem0 (e := c87) (z := 6) (T := T.T) (ty := 87) T.t87 (by decide) (by decide) hx7 0 (by decide)
        (try simp only [Nat.mul_one, Nat.add_zero] at e0)
        exact e0.trans (ld_87_0_87 _)
    refine Stk.run 6 (fun t H n => t 2 = .own b1 0 ∧ t 5 = .sc (.int .i64 v3) ∧ t 28 = .agg (c87 x7) ∧ t 29 = .sc (.int .i64 v2) ∧ H b1 = some (.cells (c87 a0) 87) ∧ b1 < n) (fun J hJ => ?_) ?_
    · simp [-splice, f1, f2, f5, f21, b_b1, ld_87_5_85, i0x7, i1x7, pd87, ex7_0_87]
      exact hJ _ _ _ ⟨by simp [f2], by simp [f5], by simp [-splice, f1, f2, f5, f21, b_b1, ld_87_5_85, i0x7, i1x7, pd87, ex7_0_87], by simp [-splice, f1, f2, f5, f21, b_b1, ld_87_5_85, i0x7, i1x7, pd87, ex7_0_87], b_b1, l_b1⟩
    clear f1 f2 f5 f21 b_b1 l_b1
    rintro t H n ⟨f2, f5, f28, f29, b_b1, l_b1⟩
    obtain ⟨x8, hx8, h⟩ := bnd h
    refine Stk.cv (g := 41) (args := [.agg (c87 x7), .sc (.int .i64 v2)]) (args' := [.agg (c87 x7), .sc (.int .i64 v2)]) (v := .sc (.int .i64 x8)) [] (hρ41 _ _ _ hx8) (by simp [f2, f5, f28, f29]) rfl rfl (by simp [f2, f5, f28, f29]) (.cons (.free (fr87 _)) (.cons (.free (rfl)) (.nil))) (.inl ⟨rfl, rfl⟩) (fun t' ht' => ?_)
    refine Stk.gen (fun t H n => t 2 = .own b1 0 ∧ t 5 = .sc (.int .i64 v3) ∧ t 30 = .sc (.int .i64 x8) ∧ H b1 = some (.cells (c87 a0) 87) ∧ b1 < n) ⟨by simp [ht', f2], by simp [ht', f5], by simp [ht'], b_b1, l_b1⟩ ?_
    clear f2 f5 f28 f29 b_b1 l_b1 ht' t'
    rintro t H n ⟨f2, f5, f30, b_b1, l_b1⟩
    refine Stk.run 1 (fun t H n => t 1 = .sc (.int .i64 x8) ∧ t 2 = .own b1 0 ∧ t 5 = .sc (.int .i64 v3) ∧ H b1 = some (.cells (c87 a0) 87) ∧ b1 < n) (fun J hJ => ?_) ?_
    · simp [-splice, f2, f5, f30, b_b1]
      exact hJ _ _ _ ⟨by simp [-splice, f2, f5, f30, b_b1], by simp [f2], by simp [f5], b_b1, l_b1⟩
    clear f2 f5 f30 b_b1 l_b1
    rintro t H n ⟨f1, f2, f5, b_b1, l_b1⟩
    refine Stk.on ?_
    refine Stk.bn ?_
    refine Stk.rg ?_
    refine Stk.run 3 (fun t H n => t 1 = .sc (.int .i64 x8) ∧ t 2 = .own b1 0 ∧ t 5 = .sc (.int .i64 (IntKind.i64.wrap (v3 + 1))) ∧ H b1 = some (.cells (c87 a0) 87) ∧ b1 < n) (fun J hJ => ?_) ?_
    · simp [-splice, f1, f2, f5, b_b1]
      exact hJ _ _ _ ⟨by simp [f1], by simp [f2], by simp [-splice, f1, f2, f5, b_b1], b_b1, l_b1⟩
    clear f1 f2 f5 b_b1 l_b1
    rintro t H n ⟨f1, f2, f5, b_b1, l_b1⟩
    refine Stk.on ?_
    exact Stk.ln μ (Nat.lt_succ_self _) (hJ1 _ _ _ _ ⟨x8, (IntKind.i64.wrap (v3 + 1)), h, f1, f2, f5, b_b1, l_b1⟩)
  · have h := cF hb6 h
    refine Stk.ex rfl ?_
    refine Stk.sq ?_
    refine Stk.rg ?_
    refine Stk.run 2 (fun t H n => t 4 = .sc (.int .i64 v2)) (fun J hJ => ?_) ?_
    · simp [-splice, f1, f2, f5, f21, b_b1]
      exact hJ _ _ _ (by simp [-splice, f1, f2, f5, f21, b_b1])
    clear f1 f2 f5 f21 b_b1 l_b1
    rintro t H n f4
    refine Stk.on ?_
    refine Stk.rt ?_
    have hq := Option.some.inj h; subst hq
    exact (hr _ _ _ (.sc (.int .i64 v2)) ([]) (by simp [f4]) (.inr (.inr (.free (rfl))))).1
theorem okG_R04_LightPat : ∀ F : Nat, (∀ (a0 : api_Pat) (a1 : Int) (r : Int), R04_LightPat F a0 a1 = some r → RunF Try.prog T.T 41 [.agg (c87 a0), .sc (.int .i64 a1)] (.sc (.int .i64 r)))
  | 0 => (fun a0 a1 r h => by rw [R04_LightPat] at h; cases h)
  | F + 1 => (fun a0 a1 r h => okB_R04_LightPat F (R04_LightPat F) (okG_R04_LightPat F) a0 a1 r (by rw [R04_LightPat] at h; exact h))
theorem ok_R04_LightPat (F : Nat) (a0 : api_Pat) (a1 : Int) (r : Int) (h : R04_LightPat F a0 a1 = some r) : RunF Try.prog T.T 41 [.agg (c87 a0), .sc (.int .i64 a1)] (.sc (.int .i64 r)) := (okG_R04_LightPat F) a0 a1 r h

theorem okB_R04_Light (F : Nat) (ρ32 : api_Expr → Int → Option Int) (hρ32 : ∀ a0 a1 r, ρ32 a0 a1 = some r → RunF Try.prog T.T 32 [.agg (c48 a0), .sc (.int .i64 a1)] (.sc (.int .i64 r))) (a0 : api_Expr) (a1 : Int) (r : Int) (h : R04_Light_B F ρ32 a0 a1 = some r) : RunF Try.prog T.T 32 [.agg (c48 a0), .sc (.int .i64 a1)] (.sc (.int .i64 r)) := by
  rw [R04_Light_B] at h
  refine RunF.z Try.func32 rfl rfl rfl rfl rfl (fun C hr => ?_)
  refine Stk.gen (fun t H n => t 0 = .agg (c48 a0) ∧ t 1 = .sc (.int .i64 a1)) ⟨by simp, by simp⟩ ?_
  rintro t H n ⟨f0, f1⟩
  refine Stk.sq ?_
  refine Stk.rg ?_
  refine Stk.om (mop_box T.t48 (cs := c48 a0) (by show partOk (t 0) = true; rw [f0]; rfl) (by show cellsOf (t 0) = _; rw [f0]; rfl)) (by simp [f0, f1]) rfl (fun t' ht' => ?_)
  refine Stk.gen (fun t H n => ∃ b1, t 1 = .sc (.int .i64 a1) ∧ t 2 = .own b1 0 ∧ H b1 = some (.cells (c48 a0) 48) ∧ b1 < n) ⟨n, by simp [ht', f1], by simp [ht'], upd_same _ _ _, Nat.lt_succ_self _⟩ ?_
  clear f0 f1 ht' t'
  rintro t H n ⟨b1, f1, f2, b_b1, l_b1⟩
  refine Stk.run 1 (fun t H n => t 1 = .sc (.int .i64 a1) ∧ t 2 = .own b1 0 ∧ H b1 = some (.cells (c48 a0) 48) ∧ b1 < n) (fun J hJ => ?_) ?_
  · simp [-splice, f1, f2, b_b1]
    exact hJ _ _ _ ⟨by simp [f1], by simp [f2], b_b1, l_b1⟩
  clear f1 f2 b_b1 l_b1
  rintro t H n ⟨f1, f2, b_b1, l_b1⟩
  refine Stk.on ?_
  refine Stk.sq ?_
  refine Stk.rg ?_
  refine Stk.run 13 (fun t H n => t 1 = .sc (.int .i64 (IntKind.i64.wrap ((IntKind.i64.wrap ((IntKind.i64.wrap (a1 - 1)) - (if 1048576 < (a0.Bytes.length : Int) then 1048576 else (a0.Bytes.length : Int)))) - (if 1048576 < (a0.Name.size : Int) then 1048576 else (a0.Name.size : Int))))) ∧ t 2 = .own b1 0 ∧ H b1 = some (.cells (c48 a0) 48) ∧ b1 < n) (fun J hJ => ?_) ?_
  · simp [-splice, f1, f2, b_b1, ld_48_4_44, ld_48_5_9]
    exact hJ _ _ _ ⟨by simp [-splice, f1, f2, b_b1, ld_48_4_44, ld_48_5_9], by simp [f2], b_b1, l_b1⟩
  clear f1 f2 b_b1 l_b1
  rintro t H n ⟨f1, f2, b_b1, l_b1⟩
  refine Stk.on ?_
  refine Stk.sq ?_
  refine Stk.sq ?_
  refine Stk.rg ?_
  refine Stk.run 1 (fun t H n => t 1 = .sc (.int .i64 (IntKind.i64.wrap ((IntKind.i64.wrap ((IntKind.i64.wrap (a1 - 1)) - (if 1048576 < (a0.Bytes.length : Int) then 1048576 else (a0.Bytes.length : Int)))) - (if 1048576 < (a0.Name.size : Int) then 1048576 else (a0.Name.size : Int))))) ∧ t 2 = .own b1 0 ∧ t 5 = .sc (.int .i64 0) ∧ H b1 = some (.cells (c48 a0) 48) ∧ b1 < n) (fun J hJ => ?_) ?_
  · simp [-splice, f1, f2, b_b1]
    exact hJ _ _ _ ⟨by simp [f1], by simp [f2], by simp [-splice, f1, f2, b_b1], b_b1, l_b1⟩
  clear f1 f2 b_b1 l_b1
  rintro t H n ⟨f1, f2, f5, b_b1, l_b1⟩
  refine Stk.on ?_
  obtain ⟨K1, hK1, h⟩ := jnd h
  refine Stk.jn (fun t H n => ∃ v2 : Int, K1 v2 = some r ∧ t 1 = .sc (.int .i64 v2) ∧ t 2 = .own b1 0 ∧ H b1 = some (.cells (c48 a0) 48) ∧ b1 < n) trivial (fun J1 hJ1 => ?_) ?_
  · skip
    refine Stk.bk ?_
    refine Stk.lo (fun μ t H n => ∃ v3 : Int, ∃ v4 : Int, R04_Light_L0 F ρ32 a0 K1 μ v3 v4 = some r ∧ t 1 = .sc (.int .i64 v3) ∧ t 2 = .own b1 0 ∧ t 5 = .sc (.int .i64 v4) ∧ H b1 = some (.cells (c48 a0) 48) ∧ b1 < n) F ⟨(IntKind.i64.wrap ((IntKind.i64.wrap ((IntKind.i64.wrap (a1 - 1)) - (if 1048576 < (a0.Bytes.length : Int) then 1048576 else (a0.Bytes.length : Int)))) - (if 1048576 < (a0.Name.size : Int) then 1048576 else (a0.Name.size : Int)))), 0, h, f1, f2, f5, b_b1, l_b1⟩ ?_
    clear h f1 f2 f5 b_b1 l_b1
    rintro J2 hJ2 μ t H n ⟨v3, v4, h, f1, f2, f5, b_b1, l_b1⟩
    cases μ with
    | zero => exact absurd h (by simp [R04_Light_L0])
    | succ μ =>
    rw [R04_Light_L0] at h
    refine Stk.sq ?_
    refine Stk.sq ?_
    refine Stk.rg ?_
    refine Stk.run 6 (fun t H n => t 1 = .sc (.int .i64 v3) ∧ t 2 = .own b1 0 ∧ t 5 = .sc (.int .i64 v4) ∧ t 24 = .sc (.bool (decide (v4 < (a0.Kids.length : Int)))) ∧ H b1 = some (.cells (c48 a0) 48) ∧ b1 < n) (fun J hJ => ?_) ?_
    · simp [-splice, f1, f2, f5, b_b1, ld_48_6_45]
      exact hJ _ _ _ ⟨by simp [f1], by simp [f2], by simp [f5], by simp [-splice, f1, f2, f5, b_b1, ld_48_6_45], b_b1, l_b1⟩
    clear f1 f2 f5 b_b1 l_b1
    rintro t H n ⟨f1, f2, f5, f24, b_b1, l_b1⟩
    refine Stk.jo 3 (fun t H n => t 1 = .sc (.int .i64 v3) ∧ t 2 = .own b1 0 ∧ t 5 = .sc (.int .i64 v4) ∧ t 27 = .sc (.bool ((decide (v4 < (a0.Kids.length : Int))) && (decide (0 ≤ v3)))) ∧ H b1 = some (.cells (c48 a0) 48) ∧ b1 < n) (fun J3 hJ3 => ?_) ?_
    · rcases Bool.eq_false_or_eq_true (decide (v4 < (a0.Kids.length : Int))) with hb3 | hb3
      · rw [hb3] at f24
        refine Stk.run 3 (fun t H n => t 1 = .sc (.int .i64 v3) ∧ t 2 = .own b1 0 ∧ t 5 = .sc (.int .i64 v4) ∧ t 27 = .sc (.bool (decide (0 ≤ v3))) ∧ H b1 = some (.cells (c48 a0) 48) ∧ b1 < n) (fun J hJ => ?_) ?_
        · simp [-splice, f1, f2, f5, f24, b_b1]
          exact hJ _ _ _ ⟨by simp [f1], by simp [f2], by simp [f5], by simp [-splice, f1, f2, f5, f24, b_b1], b_b1, l_b1⟩
        clear f1 f2 f5 f24 b_b1 l_b1
        rintro t H n ⟨f1, f2, f5, f27, b_b1, l_b1⟩
        refine Stk.on ?_
        exact Stk.ln 0 (by decide) (hJ3 _ _ _ ⟨f1, f2, f5, f27.trans (congrArg (fun q => AV.sc (.bool q)) (by rw [hb3]; rfl)), b_b1, l_b1⟩)
      · rw [hb3] at f24
        refine Stk.run 3 (fun t H n => t 1 = .sc (.int .i64 v3) ∧ t 2 = .own b1 0 ∧ t 5 = .sc (.int .i64 v4) ∧ t 27 = .sc (.bool false) ∧ H b1 = some (.cells (c48 a0) 48) ∧ b1 < n) (fun J hJ => ?_) ?_
        · simp [-splice, f1, f2, f5, f24, b_b1]
          exact hJ _ _ _ ⟨by simp [f1], by simp [f2], by simp [f5], by simp [-splice, f1, f2, f5, f24, b_b1], b_b1, l_b1⟩
        clear f1 f2 f5 f24 b_b1 l_b1
        rintro t H n ⟨f1, f2, f5, f27, b_b1, l_b1⟩
        refine Stk.on ?_
        exact Stk.ln 0 (by decide) (hJ3 _ _ _ ⟨f1, f2, f5, f27.trans (congrArg (fun q => AV.sc (.bool q)) (by rw [hb3]; rfl)), b_b1, l_b1⟩)
    clear f1 f2 f5 f24 b_b1 l_b1
    rintro t H n ⟨f1, f2, f5, f27, b_b1, l_b1⟩
    refine Stk.on ?_
    refine Stk.cond ((decide (v4 < (a0.Kids.length : Int))) && (decide (0 ≤ v3))) (by exact f27) (fun hb7 => ?_) (fun hb7 => ?_)
    · have h := cT hb7 h
      refine Stk.sk ?_
      refine Stk.sq ?_
      refine Stk.bk ?_
      refine Stk.rg ?_
      obtain ⟨x8, hx8, h⟩ := bnd h
      obtain ⟨i0x8, i1x8, i2x8, _⟩ := idx_ok hx8
      have ex8_0_48 : partOf T.T 48 (encs c48 a0.Kids) (v4.toNat * 8) = some (.agg (c48 x8)) := by
          have e0 := part_elem0 (e := c48) (z := 8) (T := T.T) (ty := 48) T.t48 (by decide) (by decide) hx8 0 (by decide)
          (try simp only [Nat.mul_one, Nat.add_zero] at e0)
          exact e0.trans (ld_48_0_48 _)
      refine Stk.run 6 (fun t H n => t 2 = .own b1 0 ∧ t 5 = .sc (.int .i64 v4) ∧ t 34 = .agg (c48 x8) ∧ t 35 = .sc (.int .i64 v3) ∧ H b1 = some (.cells (c48 a0) 48) ∧ b1 < n) (fun J hJ => ?_) ?_
      · simp [-splice, f1, f2, f5, f27, b_b1, ld_48_6_45, i0x8, i1x8, pd48, ex8_0_48]
        exact hJ _ _ _ ⟨by simp [f2], by simp [f5], by simp [-splice, f1, f2, f5, f27, b_b1, ld_48_6_45, i0x8, i1x8, pd48, ex8_0_48], by simp [-splice, f1, f2, f5, f27, b_b1, ld_48_6_45, i0x8, i1x8, pd48, ex8_0_48], b_b1, l_b1⟩
      clear f1 f2 f5 f27 b_b1 l_b1
      rintro t H n ⟨f2, f5, f34, f35, b_b1, l_b1⟩
      obtain ⟨x9, hx9, h⟩ := bnd h
      refine Stk.cv (g := 32) (args := [.agg (c48 x8), .sc (.int .i64 v3)]) (args' := [.agg (c48 x8), .sc (.int .i64 v3)]) (v := .sc (.int .i64 x9)) [] (hρ32 _ _ _ hx9) (by simp [f2, f5, f34, f35]) rfl rfl (by simp [f2, f5, f34, f35]) (.cons (.free (fr48 _)) (.cons (.free (rfl)) (.nil))) (.inl ⟨rfl, rfl⟩) (fun t' ht' => ?_)
      refine Stk.gen (fun t H n => t 2 = .own b1 0 ∧ t 5 = .sc (.int .i64 v4) ∧ t 36 = .sc (.int .i64 x9) ∧ H b1 = some (.cells (c48 a0) 48) ∧ b1 < n) ⟨by simp [ht', f2], by simp [ht', f5], by simp [ht'], b_b1, l_b1⟩ ?_
      clear f2 f5 f34 f35 b_b1 l_b1 ht' t'
      rintro t H n ⟨f2, f5, f36, b_b1, l_b1⟩
      refine Stk.run 1 (fun t H n => t 1 = .sc (.int .i64 x9) ∧ t 2 = .own b1 0 ∧ t 5 = .sc (.int .i64 v4) ∧ H b1 = some (.cells (c48 a0) 48) ∧ b1 < n) (fun J hJ => ?_) ?_
      · simp [-splice, f2, f5, f36, b_b1]
        exact hJ _ _ _ ⟨by simp [-splice, f2, f5, f36, b_b1], by simp [f2], by simp [f5], b_b1, l_b1⟩
      clear f2 f5 f36 b_b1 l_b1
      rintro t H n ⟨f1, f2, f5, b_b1, l_b1⟩
      refine Stk.on ?_
      refine Stk.bn ?_
      refine Stk.rg ?_
      refine Stk.run 3 (fun t H n => t 1 = .sc (.int .i64 x9) ∧ t 2 = .own b1 0 ∧ t 5 = .sc (.int .i64 (IntKind.i64.wrap (v4 + 1))) ∧ H b1 = some (.cells (c48 a0) 48) ∧ b1 < n) (fun J hJ => ?_) ?_
      · simp [-splice, f1, f2, f5, b_b1]
        exact hJ _ _ _ ⟨by simp [f1], by simp [f2], by simp [-splice, f1, f2, f5, b_b1], b_b1, l_b1⟩
      clear f1 f2 f5 b_b1 l_b1
      rintro t H n ⟨f1, f2, f5, b_b1, l_b1⟩
      refine Stk.on ?_
      exact Stk.ln μ (Nat.lt_succ_self _) (hJ2 _ _ _ _ ⟨x9, (IntKind.i64.wrap (v4 + 1)), h, f1, f2, f5, b_b1, l_b1⟩)
    · have h := cF hb7 h
      refine Stk.ex rfl ?_
      exact Stk.ln 0 (by decide) (hJ1 _ _ _ ⟨v3, h, f1, f2, b_b1, l_b1⟩)
  clear h f1 f2 f5 b_b1 l_b1
  rintro t H n ⟨v2, h, f1, f2, b_b1, l_b1⟩
  subst hK1
  refine Stk.sq ?_
  refine Stk.sq ?_
  refine Stk.rg ?_
  refine Stk.run 1 (fun t H n => t 1 = .sc (.int .i64 v2) ∧ t 2 = .own b1 0 ∧ t 6 = .sc (.int .i64 0) ∧ H b1 = some (.cells (c48 a0) 48) ∧ b1 < n) (fun J hJ => ?_) ?_
  · simp [-splice, f1, f2, b_b1]
    exact hJ _ _ _ ⟨by simp [f1], by simp [f2], by simp [-splice, f1, f2, b_b1], b_b1, l_b1⟩
  clear f1 f2 b_b1 l_b1
  rintro t H n ⟨f1, f2, f6, b_b1, l_b1⟩
  refine Stk.on ?_
  refine Stk.bk ?_
  refine Stk.lo (fun μ t H n => ∃ v10 : Int, ∃ v11 : Int, R04_Light_L1 F ρ32 a0 μ v10 v11 = some r ∧ t 1 = .sc (.int .i64 v10) ∧ t 2 = .own b1 0 ∧ t 6 = .sc (.int .i64 v11) ∧ H b1 = some (.cells (c48 a0) 48) ∧ b1 < n) F ⟨v2, 0, h, f1, f2, f6, b_b1, l_b1⟩ ?_
  clear h f1 f2 f6 b_b1 l_b1
  rintro J4 hJ4 μ t H n ⟨v10, v11, h, f1, f2, f6, b_b1, l_b1⟩
  cases μ with
  | zero => exact absurd h (by simp [R04_Light_L1])
  | succ μ =>
  rw [R04_Light_L1] at h
  refine Stk.sq ?_
  refine Stk.sq ?_
  refine Stk.rg ?_
  refine Stk.run 6 (fun t H n => t 1 = .sc (.int .i64 v10) ∧ t 2 = .own b1 0 ∧ t 6 = .sc (.int .i64 v11) ∧ t 42 = .sc (.bool (decide (v11 < (a0.Arms.length : Int)))) ∧ H b1 = some (.cells (c48 a0) 48) ∧ b1 < n) (fun J hJ => ?_) ?_
  · simp [-splice, f1, f2, f6, b_b1, ld_48_7_46]
    exact hJ _ _ _ ⟨by simp [f1], by simp [f2], by simp [f6], by simp [-splice, f1, f2, f6, b_b1, ld_48_7_46], b_b1, l_b1⟩
  clear f1 f2 f6 b_b1 l_b1
  rintro t H n ⟨f1, f2, f6, f42, b_b1, l_b1⟩
  refine Stk.jo 3 (fun t H n => t 1 = .sc (.int .i64 v10) ∧ t 2 = .own b1 0 ∧ t 6 = .sc (.int .i64 v11) ∧ t 45 = .sc (.bool ((decide (v11 < (a0.Arms.length : Int))) && (decide (0 ≤ v10)))) ∧ H b1 = some (.cells (c48 a0) 48) ∧ b1 < n) (fun J5 hJ5 => ?_) ?_
  · rcases Bool.eq_false_or_eq_true (decide (v11 < (a0.Arms.length : Int))) with hb5 | hb5
    · rw [hb5] at f42
      refine Stk.run 3 (fun t H n => t 1 = .sc (.int .i64 v10) ∧ t 2 = .own b1 0 ∧ t 6 = .sc (.int .i64 v11) ∧ t 45 = .sc (.bool (decide (0 ≤ v10))) ∧ H b1 = some (.cells (c48 a0) 48) ∧ b1 < n) (fun J hJ => ?_) ?_
      · simp [-splice, f1, f2, f6, f42, b_b1]
        exact hJ _ _ _ ⟨by simp [f1], by simp [f2], by simp [f6], by simp [-splice, f1, f2, f6, f42, b_b1], b_b1, l_b1⟩
      clear f1 f2 f6 f42 b_b1 l_b1
      rintro t H n ⟨f1, f2, f6, f45, b_b1, l_b1⟩
      refine Stk.on ?_
      exact Stk.ln 0 (by decide) (hJ5 _ _ _ ⟨f1, f2, f6, f45.trans (congrArg (fun q => AV.sc (.bool q)) (by rw [hb5]; rfl)), b_b1, l_b1⟩)
    · rw [hb5] at f42
      refine Stk.run 3 (fun t H n => t 1 = .sc (.int .i64 v10) ∧ t 2 = .own b1 0 ∧ t 6 = .sc (.int .i64 v11) ∧ t 45 = .sc (.bool false) ∧ H b1 = some (.cells (c48 a0) 48) ∧ b1 < n) (fun J hJ => ?_) ?_
      · simp [-splice, f1, f2, f6, f42, b_b1]
        exact hJ _ _ _ ⟨by simp [f1], by simp [f2], by simp [f6], by simp [-splice, f1, f2, f6, f42, b_b1], b_b1, l_b1⟩
      clear f1 f2 f6 f42 b_b1 l_b1
      rintro t H n ⟨f1, f2, f6, f45, b_b1, l_b1⟩
      refine Stk.on ?_
      exact Stk.ln 0 (by decide) (hJ5 _ _ _ ⟨f1, f2, f6, f45.trans (congrArg (fun q => AV.sc (.bool q)) (by rw [hb5]; rfl)), b_b1, l_b1⟩)
  clear f1 f2 f6 f42 b_b1 l_b1
  rintro t H n ⟨f1, f2, f6, f45, b_b1, l_b1⟩
  refine Stk.on ?_
  refine Stk.cond ((decide (v11 < (a0.Arms.length : Int))) && (decide (0 ≤ v10))) (by exact f45) (fun hb14 => ?_) (fun hb14 => ?_)
  · have h := cT hb14 h
    refine Stk.sk ?_
    refine Stk.sq ?_
    refine Stk.bk ?_
    obtain ⟨n0, hn0⟩ : ∃ m, m = n := ⟨n, rfl⟩
    have ln0 : n0 ≤ n := Nat.le_of_eq hn0
    refine Stk.rgD [.rd [], .rd [b1], .rd [], .rd [], .rd [], .rd [], .rd [], .rd [b1], .rd [], .rd [], .rd [], .rd [], .rd [], .rd [], .rd [], .rd []] none (by kernel_rfl) (by rfl) rfl (by simp [below, hn0, l_b1]) rfl ?_
    obtain ⟨x15, hx15, h⟩ := bnd h
    obtain ⟨i0x15, i1x15, i2x15, _⟩ := idx_ok hx15
    have ex15_6_48 : partOf T.T 48 (encs c89 a0.Arms) (v11.toNat * 14 + 6) = some (.agg (c48 x15.Body)) := by
        have e0 := part_elem0 (e := c89) (z := 14) (T := T.T) (ty := 48) T.t48 (by decide) (by decide) hx15 6 (by decide)
        (try simp only [Nat.mul_one, Nat.add_zero] at e0)
        exact e0.trans (ld_89_6_48 _)
    have ex15_0_87 : partOf T.T 87 (encs c89 a0.Arms) (v11.toNat * 14) = some (.agg (c87 x15.Pat)) := by
        have e0 := part_elem0 (e := c89) (z := 14) (T := T.T) (ty := 87) T.t87 (by decide) (by decide) hx15 0 (by decide)
        (try simp only [Nat.mul_one, Nat.add_zero] at e0)
        exact e0.trans (ld_89_0_87 _)
    refine Stk.runD 13 (fun t H n => t 2 = .own b1 0 ∧ t 6 = .sc (.int .i64 v11) ∧ t 53 = .agg (c48 x15.Body) ∧ t 59 = .agg (c87 x15.Pat) ∧ t 60 = .sc (.int .i64 v10) ∧ H b1 = some (.cells (c48 a0) 48) ∧ b1 < n ∧ n0 ≤ n) (fun J hJ => ?_) ?_
    · simp [-splice, f1, f2, f6, f45, b_b1, ld_48_7_46, i0x15, i1x15, pd48, ex15_6_48, pd87, ex15_0_87]
      exact hJ _ _ _ ⟨by simp [f2], by simp [f6], by simp [-splice, f1, f2, f6, f45, b_b1, ld_48_7_46, i0x15, i1x15, pd48, ex15_6_48, pd87, ex15_0_87], by simp [-splice, f1, f2, f6, f45, b_b1, ld_48_7_46, i0x15, i1x15, pd48, ex15_6_48, pd87, ex15_0_87], by simp [-splice, f1, f2, f6, f45, b_b1, ld_48_7_46, i0x15, i1x15, pd48, ex15_6_48, pd87, ex15_0_87], b_b1, l_b1, ln0⟩
    clear f1 f2 f6 f45 b_b1 l_b1 ln0
    rintro t H n ⟨f2, f6, f53, f59, f60, b_b1, l_b1, ln0⟩
    obtain ⟨x16, hx16, h⟩ := bnd h
    refine Stk.cvD (g := 41) (args := [.agg (c87 x15.Pat), .sc (.int .i64 v10)]) (args' := [.agg (c87 x15.Pat), .sc (.int .i64 v10)]) (v := .sc (.int .i64 x16)) [] (ok_R04_LightPat F _ _ _ hx16) rfl (by simp) rfl (by simp [f2, f6, f53, f59, f60]) rfl rfl (by simp [f2, f6, f53, f59, f60]) (.cons (.free (fr87 _)) (.cons (.free (rfl)) (.nil))) (.inl ⟨rfl, rfl⟩) (fun t' ht' => ?_)
    refine Stk.gen (fun t H n => t 2 = .own b1 0 ∧ t 6 = .sc (.int .i64 v11) ∧ t 53 = .agg (c48 x15.Body) ∧ t 61 = .sc (.int .i64 x16) ∧ H b1 = some (.cells (c48 a0) 48) ∧ b1 < n ∧ n0 ≤ n) ⟨by simp [ht', f2], by simp [ht', f6], by simp [ht', f53], by simp [ht'], b_b1, l_b1, ln0⟩ ?_
    clear f2 f6 f53 f59 f60 b_b1 l_b1 ln0 ht' t'
    rintro t H n ⟨f2, f6, f53, f61, b_b1, l_b1, ln0⟩
    obtain ⟨x17, hx17, h⟩ := bnd h
    refine Stk.cvD (g := 32) (args := [.agg (c48 x15.Body), .sc (.int .i64 x16)]) (args' := [.agg (c48 x15.Body), .sc (.int .i64 x16)]) (v := .sc (.int .i64 x17)) [] (hρ32 _ _ _ hx17) rfl (by simp) rfl (by simp [f2, f6, f53, f61]) rfl rfl (by simp [f2, f6, f53, f61]) (.cons (.free (fr48 _)) (.cons (.free (rfl)) (.nil))) (.inl ⟨rfl, rfl⟩) (fun t' ht' => ?_)
    refine Stk.gen (fun t H n => t 2 = .own b1 0 ∧ t 6 = .sc (.int .i64 v11) ∧ t 62 = .sc (.int .i64 x17) ∧ H b1 = some (.cells (c48 a0) 48) ∧ b1 < n ∧ n0 ≤ n) ⟨by simp [ht', f2], by simp [ht', f6], by simp [ht'], b_b1, l_b1, ln0⟩ ?_
    clear f2 f6 f53 f61 b_b1 l_b1 ln0 ht' t'
    rintro t H n ⟨f2, f6, f62, b_b1, l_b1, ln0⟩
    refine Stk.runD 1 (fun t H n => t 1 = .sc (.int .i64 x17) ∧ t 2 = .own b1 0 ∧ t 6 = .sc (.int .i64 v11) ∧ H b1 = some (.cells (c48 a0) 48) ∧ b1 < n ∧ n0 ≤ n) (fun J hJ => ?_) ?_
    · simp [-splice, f2, f6, f62, b_b1]
      exact hJ _ _ _ ⟨by simp [-splice, f2, f6, f62, b_b1], by simp [f2], by simp [f6], b_b1, l_b1, ln0⟩
    clear f2 f6 f62 b_b1 l_b1 ln0
    rintro t H n ⟨f1, f2, f6, b_b1, l_b1, ln0⟩
    refine Stk.onD ?_
    refine Stk.bn ?_
    refine Stk.rg ?_
    refine Stk.run 3 (fun t H n => t 1 = .sc (.int .i64 x17) ∧ t 2 = .own b1 0 ∧ t 6 = .sc (.int .i64 (IntKind.i64.wrap (v11 + 1))) ∧ H b1 = some (.cells (c48 a0) 48) ∧ b1 < n) (fun J hJ => ?_) ?_
    · simp [-splice, f1, f2, f6, b_b1]
      exact hJ _ _ _ ⟨by simp [f1], by simp [f2], by simp [-splice, f1, f2, f6, b_b1], b_b1, l_b1⟩
    clear f1 f2 f6 b_b1 l_b1 ln0
    rintro t H n ⟨f1, f2, f6, b_b1, l_b1⟩
    refine Stk.on ?_
    exact Stk.ln μ (Nat.lt_succ_self _) (hJ4 _ _ _ _ ⟨x17, (IntKind.i64.wrap (v11 + 1)), h, f1, f2, f6, b_b1, l_b1⟩)
  · have h := cF hb14 h
    refine Stk.ex rfl ?_
    refine Stk.sq ?_
    refine Stk.rg ?_
    refine Stk.run 2 (fun t H n => t 4 = .sc (.int .i64 v10)) (fun J hJ => ?_) ?_
    · simp [-splice, f1, f2, f6, f45, b_b1]
      exact hJ _ _ _ (by simp [-splice, f1, f2, f6, f45, b_b1])
    clear f1 f2 f6 f45 b_b1 l_b1
    rintro t H n f4
    refine Stk.on ?_
    refine Stk.rt ?_
    have hq := Option.some.inj h; subst hq
    exact (hr _ _ _ (.sc (.int .i64 v10)) ([]) (by simp [f4]) (.inr (.inr (.free (rfl))))).1
theorem okG_R04_Light : ∀ F : Nat, (∀ (a0 : api_Expr) (a1 : Int) (r : Int), R04_Light F a0 a1 = some r → RunF Try.prog T.T 32 [.agg (c48 a0), .sc (.int .i64 a1)] (.sc (.int .i64 r)))
  | 0 => (fun a0 a1 r h => by rw [R04_Light] at h; cases h)
  | F + 1 => (fun a0 a1 r h => okB_R04_Light F (R04_Light F) (okG_R04_Light F) a0 a1 r (by rw [R04_Light] at h; exact h))
theorem ok_R04_Light (F : Nat) (a0 : api_Expr) (a1 : Int) (r : Int) (h : R04_Light F a0 a1 = some r) : RunF Try.prog T.T 32 [.agg (c48 a0), .sc (.int .i64 a1)] (.sc (.int .i64 r)) := (okG_R04_Light F) a0 a1 r h

end Go.Proofs.Ytappiofmkoelnaa.M
