/-
  The functions come to them.
-/
import Derived.Test.YtappiofmkoelnaaTmM
namespace Go.Proofs.Ytappiofmkoelnaa.M
open Go.Proofs.YtappiofmkoelnaaW.Ah Go.Proofs.Ytappiofmkoelnaa
set_option linter.unusedVariables false
set_option linter.unusedSimpArgs false
set_option maxRecDepth 8000
attribute [local simp] T.t3 T.t4 T.t9 T.t22 T.t30 T.t32 T.t33 T.t35 T.t37 T.t40 List.range List.range.loop
attribute [-simp] appendAV fillAV
theorem okB_R04_LightType (F : Nat) (ρ14 : api_Type → Int → Option Int) (hρ14 : ∀ a0 a1 r, ρ14 a0 a1 = some r → RunF Try.prog T.T 14 [.agg (c40 a0), .sc (.int .i64 a1)] (.sc (.int .i64 r))) (a0 : api_Type) (a1 : Int) (r : Int) (h : R04_LightType_B F ρ14 a0 a1 = some r) : RunF Try.prog T.T 14 [.agg (c40 a0), .sc (.int .i64 a1)] (.sc (.int .i64 r)) := by
  rw [R04_LightType_B] at h
  refine RunF.z Try.func14 rfl rfl rfl rfl rfl (fun C hr => ?_)
  refine Stk.gen (fun t H n => t 0 = .agg (c40 a0) ∧ t 1 = .sc (.int .i64 a1)) ⟨by simp, by simp⟩ ?_
  rintro t H n ⟨f0, f1⟩
  refine Stk.sq ?_
  refine Stk.rg ?_
  refine Stk.om (mop_box T.t40 (cs := c40 a0) (by show partOk (t 0) = true; rw [f0]; rfl) (by show cellsOf (t 0) = _; rw [f0]; rfl)) (by simp [f0, f1]) rfl (fun t' ht' => ?_)
  refine Stk.gen (fun t H n => ∃ b1, t 1 = .sc (.int .i64 a1) ∧ t 2 = .own b1 0 ∧ H b1 = some (.cells (c40 a0) 40) ∧ b1 < n) ⟨n, by simp [ht', f1], by simp [ht'], upd_same _ _ _, Nat.lt_succ_self _⟩ ?_
  clear f0 f1 ht' t'
  rintro t H n ⟨b1, f1, f2, b_b1, l_b1⟩
  refine Stk.run 1 (fun t H n => t 1 = .sc (.int .i64 a1) ∧ t 2 = .own b1 0 ∧ H b1 = some (.cells (c40 a0) 40) ∧ b1 < n) (fun J hJ => ?_) ?_
  · simp [-splice, f1, f2, b_b1]
    exact hJ _ _ _ ⟨by simp [f1], by simp [f2], b_b1, l_b1⟩
  clear f1 f2 b_b1 l_b1
  rintro t H n ⟨f1, f2, b_b1, l_b1⟩
  refine Stk.on ?_
  refine Stk.sq ?_
  refine Stk.rg ?_
  refine Stk.run 8 (fun t H n => t 1 = .sc (.int .i64 (IntKind.i64.wrap ((IntKind.i64.wrap (a1 - 1)) - (if 1048576 < (a0.Name.size : Int) then 1048576 else (a0.Name.size : Int))))) ∧ t 2 = .own b1 0 ∧ H b1 = some (.cells (c40 a0) 40) ∧ b1 < n) (fun J hJ => ?_) ?_
  · simp [-splice, f1, f2, b_b1, ld_40_1_9]
    exact hJ _ _ _ ⟨by simp [-splice, f1, f2, b_b1, ld_40_1_9], by simp [f2], b_b1, l_b1⟩
  clear f1 f2 b_b1 l_b1
  rintro t H n ⟨f1, f2, b_b1, l_b1⟩
  refine Stk.on ?_
  refine Stk.sq ?_
  refine Stk.sq ?_
  refine Stk.rg ?_
  refine Stk.run 1 (fun t H n => t 1 = .sc (.int .i64 (IntKind.i64.wrap ((IntKind.i64.wrap (a1 - 1)) - (if 1048576 < (a0.Name.size : Int) then 1048576 else (a0.Name.size : Int))))) ∧ t 2 = .own b1 0 ∧ t 5 = .sc (.int .i64 0) ∧ H b1 = some (.cells (c40 a0) 40) ∧ b1 < n) (fun J hJ => ?_) ?_
  · simp [-splice, f1, f2, b_b1]
    exact hJ _ _ _ ⟨by simp [f1], by simp [f2], by simp [-splice, f1, f2, b_b1], b_b1, l_b1⟩
  clear f1 f2 b_b1 l_b1
  rintro t H n ⟨f1, f2, f5, b_b1, l_b1⟩
  refine Stk.on ?_
  refine Stk.bk ?_
  refine Stk.lo (fun μ t H n => ∃ v2 : Int, ∃ v3 : Int, R04_LightType_L0 F ρ14 a0 μ v2 v3 = some r ∧ t 1 = .sc (.int .i64 v2) ∧ t 2 = .own b1 0 ∧ t 5 = .sc (.int .i64 v3) ∧ H b1 = some (.cells (c40 a0) 40) ∧ b1 < n) F ⟨(IntKind.i64.wrap ((IntKind.i64.wrap (a1 - 1)) - (if 1048576 < (a0.Name.size : Int) then 1048576 else (a0.Name.size : Int)))), 0, h, f1, f2, f5, b_b1, l_b1⟩ ?_
  clear h f1 f2 f5 b_b1 l_b1
  rintro J1 hJ1 μ t H n ⟨v2, v3, h, f1, f2, f5, b_b1, l_b1⟩
  cases μ with
  | zero => exact absurd h (by simp [R04_LightType_L0])
  | succ μ =>
  rw [R04_LightType_L0] at h
  refine Stk.sq ?_
  refine Stk.sq ?_
  refine Stk.rg ?_
  refine Stk.run 6 (fun t H n => t 1 = .sc (.int .i64 v2) ∧ t 2 = .own b1 0 ∧ t 5 = .sc (.int .i64 v3) ∧ t 18 = .sc (.bool (decide (v3 < (a0.Parts.length : Int)))) ∧ H b1 = some (.cells (c40 a0) 40) ∧ b1 < n) (fun J hJ => ?_) ?_
  · simp [-splice, f1, f2, f5, b_b1, ld_40_2_33]
    exact hJ _ _ _ ⟨by simp [f1], by simp [f2], by simp [f5], by simp [-splice, f1, f2, f5, b_b1, ld_40_2_33], b_b1, l_b1⟩
  clear f1 f2 f5 b_b1 l_b1
  rintro t H n ⟨f1, f2, f5, f18, b_b1, l_b1⟩
  refine Stk.jo 3 (fun t H n => t 1 = .sc (.int .i64 v2) ∧ t 2 = .own b1 0 ∧ t 5 = .sc (.int .i64 v3) ∧ t 21 = .sc (.bool ((decide (v3 < (a0.Parts.length : Int))) && (decide (0 ≤ v2)))) ∧ H b1 = some (.cells (c40 a0) 40) ∧ b1 < n) (fun J2 hJ2 => ?_) ?_
  · rcases Bool.eq_false_or_eq_true (decide (v3 < (a0.Parts.length : Int))) with hb2 | hb2
    · rw [hb2] at f18
      refine Stk.run 3 (fun t H n => t 1 = .sc (.int .i64 v2) ∧ t 2 = .own b1 0 ∧ t 5 = .sc (.int .i64 v3) ∧ t 21 = .sc (.bool (decide (0 ≤ v2))) ∧ H b1 = some (.cells (c40 a0) 40) ∧ b1 < n) (fun J hJ => ?_) ?_
      · simp [-splice, f1, f2, f5, f18, b_b1]
        exact hJ _ _ _ ⟨by simp [f1], by simp [f2], by simp [f5], by simp [-splice, f1, f2, f5, f18, b_b1], b_b1, l_b1⟩
      clear f1 f2 f5 f18 b_b1 l_b1
      rintro t H n ⟨f1, f2, f5, f21, b_b1, l_b1⟩
      refine Stk.on ?_
      exact Stk.ln 0 (by decide) (hJ2 _ _ _ ⟨f1, f2, f5, f21.trans (congrArg (fun q => AV.sc (.bool q)) (by rw [hb2]; rfl)), b_b1, l_b1⟩)
    · rw [hb2] at f18
      refine Stk.run 3 (fun t H n => t 1 = .sc (.int .i64 v2) ∧ t 2 = .own b1 0 ∧ t 5 = .sc (.int .i64 v3) ∧ t 21 = .sc (.bool false) ∧ H b1 = some (.cells (c40 a0) 40) ∧ b1 < n) (fun J hJ => ?_) ?_
      · simp [-splice, f1, f2, f5, f18, b_b1]
        exact hJ _ _ _ ⟨by simp [f1], by simp [f2], by simp [f5], by simp [-splice, f1, f2, f5, f18, b_b1], b_b1, l_b1⟩
      clear f1 f2 f5 f18 b_b1 l_b1
      rintro t H n ⟨f1, f2, f5, f21, b_b1, l_b1⟩
      refine Stk.on ?_
      exact Stk.ln 0 (by decide) (hJ2 _ _ _ ⟨f1, f2, f5, f21.trans (congrArg (fun q => AV.sc (.bool q)) (by rw [hb2]; rfl)), b_b1, l_b1⟩)
  clear f1 f2 f5 f18 b_b1 l_b1
  rintro t H n ⟨f1, f2, f5, f21, b_b1, l_b1⟩
  refine Stk.on ?_
  refine Stk.cond ((decide (v3 < (a0.Parts.length : Int))) && (decide (0 ≤ v2))) (by exact f21) (fun hb6 => ?_) (fun hb6 => ?_)
  · have h := cT hb6 h
    refine Stk.sk ?_
    refine Stk.sq ?_
    refine Stk.bk ?_
    refine Stk.rg ?_
    obtain ⟨x7, hx7, h⟩ := bnd h
    obtain ⟨i0x7, i1x7, i2x7, _⟩ := idx_ok hx7
    have ex7_0_40 : partOf T.T 40 (encs c40 a0.Parts) (v3.toNat * 3) = some (.agg (c40 x7)) := by
        have e0 := part_elem0 (e := c40) (z := 3) (T := T.T) (ty := 40) T.t40 (by decide) (by decide) hx7 0 (by decide)
        (try simp only [Nat.mul_one, Nat.add_zero] at e0)
        exact e0.trans (ld_40_0_40 _)
    refine Stk.run 6 (fun t H n => t 2 = .own b1 0 ∧ t 5 = .sc (.int .i64 v3) ∧ t 28 = .agg (c40 x7) ∧ t 29 = .sc (.int .i64 v2) ∧ H b1 = some (.cells (c40 a0) 40) ∧ b1 < n) (fun J hJ => ?_) ?_
    · simp [-splice, f1, f2, f5, f21, b_b1, ld_40_2_33, i0x7, i1x7, pd40, ex7_0_40]
      exact hJ _ _ _ ⟨by simp [f2], by simp [f5], by simp [-splice, f1, f2, f5, f21, b_b1, ld_40_2_33, i0x7, i1x7, pd40, ex7_0_40], by simp [-splice, f1, f2, f5, f21, b_b1, ld_40_2_33, i0x7, i1x7, pd40, ex7_0_40], b_b1, l_b1⟩
    clear f1 f2 f5 f21 b_b1 l_b1
    rintro t H n ⟨f2, f5, f28, f29, b_b1, l_b1⟩
    obtain ⟨x8, hx8, h⟩ := bnd h
    refine Stk.cv (g := 14) (args := [.agg (c40 x7), .sc (.int .i64 v2)]) (args' := [.agg (c40 x7), .sc (.int .i64 v2)]) (v := .sc (.int .i64 x8)) [] (hρ14 _ _ _ hx8) (by simp [f2, f5, f28, f29]) rfl rfl (by simp [f2, f5, f28, f29]) (.cons (.free (fr40 _)) (.cons (.free (rfl)) (.nil))) (.inl ⟨rfl, rfl⟩) (fun t' ht' => ?_)
    refine Stk.gen (fun t H n => t 2 = .own b1 0 ∧ t 5 = .sc (.int .i64 v3) ∧ t 30 = .sc (.int .i64 x8) ∧ H b1 = some (.cells (c40 a0) 40) ∧ b1 < n) ⟨by simp [ht', f2], by simp [ht', f5], by simp [ht'], b_b1, l_b1⟩ ?_
    clear f2 f5 f28 f29 b_b1 l_b1 ht' t'
    rintro t H n ⟨f2, f5, f30, b_b1, l_b1⟩
    refine Stk.run 1 (fun t H n => t 1 = .sc (.int .i64 x8) ∧ t 2 = .own b1 0 ∧ t 5 = .sc (.int .i64 v3) ∧ H b1 = some (.cells (c40 a0) 40) ∧ b1 < n) (fun J hJ => ?_) ?_
    · simp [-splice, f2, f5, f30, b_b1]
      exact hJ _ _ _ ⟨by simp [-splice, f2, f5, f30, b_b1], by simp [f2], by simp [f5], b_b1, l_b1⟩
    clear f2 f5 f30 b_b1 l_b1
    rintro t H n ⟨f1, f2, f5, b_b1, l_b1⟩
    refine Stk.on ?_
    refine Stk.bn ?_
    refine Stk.rg ?_
    refine Stk.run 3 (fun t H n => t 1 = .sc (.int .i64 x8) ∧ t 2 = .own b1 0 ∧ t 5 = .sc (.int .i64 (IntKind.i64.wrap (v3 + 1))) ∧ H b1 = some (.cells (c40 a0) 40) ∧ b1 < n) (fun J hJ => ?_) ?_
    · simp [-splice, f1, f2, f5, b_b1]
      exact hJ _ _ _ ⟨by simp [f1], by simp [f2], by simp [-splice, f1, f2, f5, b_b1], b_b1, l_b1⟩
    clear f1 f2 f5 b_b1 l_b1
    rintro t H n ⟨f1, f2, f5, b_b1, l_b1⟩
    refine Stk.on ?_
    exact Stk.ln μ (Nat.lt_succ_self _) (hJ1 _ _ _ _ ⟨x8, (IntKind.i64.wrap (v3 + 1)), h, f1, f2, f5, b_b1, l_b1⟩)
  · have h := cF hb6 h
    refine Stk.ex rfl ?_
    refine Stk.sq ?_
    refine Stk.rg ?_
    refine Stk.run 2 (fun t H n => t 4 = .sc (.int .i64 v2)) (fun J hJ => ?_) ?_
    · simp [-splice, f1, f2, f5, f21, b_b1]
      exact hJ _ _ _ (by simp [-splice, f1, f2, f5, f21, b_b1])
    clear f1 f2 f5 f21 b_b1 l_b1
    rintro t H n f4
    refine Stk.on ?_
    refine Stk.rt ?_
    have hq := Option.some.inj h; subst hq
    exact (hr _ _ _ (.sc (.int .i64 v2)) ([]) (by simp [f4]) (.inr (.inr (.free (rfl))))).1
theorem okG_R04_LightType : ∀ F : Nat, (∀ (a0 : api_Type) (a1 : Int) (r : Int), R04_LightType F a0 a1 = some r → RunF Try.prog T.T 14 [.agg (c40 a0), .sc (.int .i64 a1)] (.sc (.int .i64 r)))
  | 0 => (fun a0 a1 r h => by rw [R04_LightType] at h; cases h)
  | F + 1 => (fun a0 a1 r h => okB_R04_LightType F (R04_LightType F) (okG_R04_LightType F) a0 a1 r (by rw [R04_LightType] at h; exact h))
theorem ok_R04_LightType (F : Nat) (a0 : api_Type) (a1 : Int) (r : Int) (h : R04_LightType F a0 a1 = some r) : RunF Try.prog T.T 14 [.agg (c40 a0), .sc (.int .i64 a1)] (.sc (.int .i64 r)) := (okG_R04_LightType F) a0 a1 r h

theorem ok_L07_light (F : Nat) (a0 : (List api_Data)) (r : Bool) (h : L07_light F a0 = some r) : RunF Try.prog T.T 6 [.ssl (encs c32 a0) a0.length false] (.sc (.bool r)) := by
  rw [L07_light] at h
  refine RunF.z Try.func6 rfl rfl rfl rfl rfl (fun C hr => ?_)
  refine Stk.gen (fun t H n => t 0 = .ssl (encs c32 a0) a0.length false) (by simp) ?_
  rintro t H n f0
  refine Stk.sq ?_
  refine Stk.rg ?_
  refine Stk.run 1 (fun t H n => t 0 = .ssl (encs c32 a0) a0.length false) (fun J hJ => ?_) ?_
  · simp [-splice, f0]
    exact hJ _ _ _ (by simp [f0])
  clear f0
  rintro t H n f0
  refine Stk.on ?_
  refine Stk.sq ?_
  refine Stk.rg ?_
  refine Stk.run 1 (fun t H n => t 0 = .ssl (encs c32 a0) a0.length false ∧ t 3 = .sc (.int .i64 2000)) (fun J hJ => ?_) ?_
  · simp [-splice, f0]
    exact hJ _ _ _ ⟨by simp [f0], by simp [-splice, f0]⟩
  clear f0
  rintro t H n ⟨f0, f3⟩
  refine Stk.on ?_
  refine Stk.sq ?_
  refine Stk.sq ?_
  refine Stk.rg ?_
  refine Stk.run 1 (fun t H n => t 0 = .ssl (encs c32 a0) a0.length false ∧ t 3 = .sc (.int .i64 2000) ∧ t 4 = .sc (.int .i64 0)) (fun J hJ => ?_) ?_
  · simp [-splice, f0, f3]
    exact hJ _ _ _ ⟨by simp [f0], by simp [f3], by simp [-splice, f0, f3]⟩
  clear f0 f3
  rintro t H n ⟨f0, f3, f4⟩
  refine Stk.on ?_
  obtain ⟨K1, hK1, h⟩ := jnd h
  refine Stk.jn (fun t H n => ∃ v1 : Int, K1 v1 = some r ∧ t 0 = .ssl (encs c32 a0) a0.length false ∧ t 3 = .sc (.int .i64 v1)) trivial (fun J1 hJ1 => ?_) ?_
  · skip
    refine Stk.bk ?_
    refine Stk.lo (fun μ t H n => ∃ v2 : Int, ∃ v3 : Int, L07_light_L0 F a0 K1 μ v2 v3 = some r ∧ t 0 = .ssl (encs c32 a0) a0.length false ∧ t 3 = .sc (.int .i64 v2) ∧ t 4 = .sc (.int .i64 v3)) F ⟨2000, 0, h, f0, f3, f4⟩ ?_
    clear h f0 f3 f4
    rintro J2 hJ2 μ t H n ⟨v2, v3, h, f0, f3, f4⟩
    cases μ with
    | zero => exact absurd h (by simp [L07_light_L0])
    | succ μ =>
    rw [L07_light_L0] at h
    refine Stk.sq ?_
    refine Stk.sq ?_
    refine Stk.rg ?_
    refine Stk.run 5 (fun t H n => t 0 = .ssl (encs c32 a0) a0.length false ∧ t 3 = .sc (.int .i64 v2) ∧ t 4 = .sc (.int .i64 v3) ∧ t 10 = .sc (.bool (decide (v3 < (a0.length : Int))))) (fun J hJ => ?_) ?_
    · simp [-splice, f0, f3, f4]
      exact hJ _ _ _ ⟨by simp [f0], by simp [f3], by simp [f4], by simp [-splice, f0, f3, f4]⟩
    clear f0 f3 f4
    rintro t H n ⟨f0, f3, f4, f10⟩
    refine Stk.jo 3 (fun t H n => t 0 = .ssl (encs c32 a0) a0.length false ∧ t 3 = .sc (.int .i64 v2) ∧ t 4 = .sc (.int .i64 v3) ∧ t 13 = .sc (.bool ((decide (v3 < (a0.length : Int))) && (decide (0 ≤ v2))))) (fun J3 hJ3 => ?_) ?_
    · rcases Bool.eq_false_or_eq_true (decide (v3 < (a0.length : Int))) with hb3 | hb3
      · rw [hb3] at f10
        refine Stk.run 3 (fun t H n => t 0 = .ssl (encs c32 a0) a0.length false ∧ t 3 = .sc (.int .i64 v2) ∧ t 4 = .sc (.int .i64 v3) ∧ t 13 = .sc (.bool (decide (0 ≤ v2)))) (fun J hJ => ?_) ?_
        · simp [-splice, f0, f3, f4, f10]
          exact hJ _ _ _ ⟨by simp [f0], by simp [f3], by simp [f4], by simp [-splice, f0, f3, f4, f10]⟩
        clear f0 f3 f4 f10
        rintro t H n ⟨f0, f3, f4, f13⟩
        refine Stk.on ?_
        exact Stk.ln 0 (by decide) (hJ3 _ _ _ ⟨f0, f3, f4, f13.trans (congrArg (fun q => AV.sc (.bool q)) (by rw [hb3]; rfl))⟩)
      · rw [hb3] at f10
        refine Stk.run 3 (fun t H n => t 0 = .ssl (encs c32 a0) a0.length false ∧ t 3 = .sc (.int .i64 v2) ∧ t 4 = .sc (.int .i64 v3) ∧ t 13 = .sc (.bool false)) (fun J hJ => ?_) ?_
        · simp [-splice, f0, f3, f4, f10]
          exact hJ _ _ _ ⟨by simp [f0], by simp [f3], by simp [f4], by simp [-splice, f0, f3, f4, f10]⟩
        clear f0 f3 f4 f10
        rintro t H n ⟨f0, f3, f4, f13⟩
        refine Stk.on ?_
        exact Stk.ln 0 (by decide) (hJ3 _ _ _ ⟨f0, f3, f4, f13.trans (congrArg (fun q => AV.sc (.bool q)) (by rw [hb3]; rfl))⟩)
    clear f0 f3 f4 f10
    rintro t H n ⟨f0, f3, f4, f13⟩
    refine Stk.on ?_
    refine Stk.cond ((decide (v3 < (a0.length : Int))) && (decide (0 ≤ v2))) (by exact f13) (fun hb6 => ?_) (fun hb6 => ?_)
    · have h := cT hb6 h
      refine Stk.sk ?_
      refine Stk.sq ?_
      refine Stk.bk ?_
      refine Stk.sq ?_
      refine Stk.rg ?_
      obtain ⟨x7, hx7, h⟩ := bnd h
      obtain ⟨i0x7, i1x7, i2x7, _⟩ := idx_ok hx7
      have ex7_2_9 : partOf T.T 9 (encs c32 a0) (v3.toNat * 4 + 2) = some (.sc (.string x7.Name)) := by
          have e0 := part_elem0 (e := c32) (z := 4) (T := T.T) (ty := 9) T.t9 (by decide) (by decide) hx7 2 (by decide)
          (try simp only [Nat.mul_one, Nat.add_zero] at e0)
          exact e0.trans (ld_32_2_9 _)
      refine Stk.run 11 (fun t H n => t 0 = .ssl (encs c32 a0) a0.length false ∧ t 3 = .sc (.int .i64 (IntKind.i64.wrap (v2 - (IntKind.i64.wrap (1 + (if 2000 < (x7.Name.size : Int) then 2000 else (x7.Name.size : Int))))))) ∧ t 4 = .sc (.int .i64 v3)) (fun J hJ => ?_) ?_
      · simp [-splice, f0, f3, f4, f13, i0x7, i1x7, pd9, ex7_2_9]
        exact hJ _ _ _ ⟨by simp [f0], by simp [-splice, f0, f3, f4, f13, i0x7, i1x7, pd9, ex7_2_9], by simp [f4]⟩
      clear f0 f3 f4 f13
      rintro t H n ⟨f0, f3, f4⟩
      refine Stk.on ?_
      refine Stk.sq ?_
      refine Stk.rg ?_
      refine Stk.run 1 (fun t H n => t 0 = .ssl (encs c32 a0) a0.length false ∧ t 3 = .sc (.int .i64 (IntKind.i64.wrap (v2 - (IntKind.i64.wrap (1 + (if 2000 < (x7.Name.size : Int) then 2000 else (x7.Name.size : Int))))))) ∧ t 4 = .sc (.int .i64 v3) ∧ t 5 = .sc (.int .i64 0)) (fun J hJ => ?_) ?_
      · simp [-splice, f0, f3, f4]
        exact hJ _ _ _ ⟨by simp [f0], by simp [f3], by simp [f4], by simp [-splice, f0, f3, f4]⟩
      clear f0 f3 f4
      rintro t H n ⟨f0, f3, f4, f5⟩
      refine Stk.on ?_
      obtain ⟨K4, hK4, h⟩ := jnd h
      refine Stk.jn (fun t H n => ∃ v8 : Int, K4 v8 = some r ∧ t 0 = .ssl (encs c32 a0) a0.length false ∧ t 3 = .sc (.int .i64 v8) ∧ t 4 = .sc (.int .i64 v3)) trivial (fun J4 hJ4 => ?_) ?_
      · skip
        refine Stk.bk ?_
        refine Stk.lo (fun μ t H n => ∃ v9 : Int, ∃ v10 : Int, L07_light_L1 F a0 v3 K4 μ v9 v10 = some r ∧ t 0 = .ssl (encs c32 a0) a0.length false ∧ t 3 = .sc (.int .i64 v9) ∧ t 4 = .sc (.int .i64 v3) ∧ t 5 = .sc (.int .i64 v10)) F ⟨(IntKind.i64.wrap (v2 - (IntKind.i64.wrap (1 + (if 2000 < (x7.Name.size : Int) then 2000 else (x7.Name.size : Int)))))), 0, h, f0, f3, f4, f5⟩ ?_
        clear h f0 f3 f4 f5
        rintro J5 hJ5 μ t H n ⟨v9, v10, h, f0, f3, f4, f5⟩
        cases μ with
        | zero => exact absurd h (by simp [L07_light_L1])
        | succ μ =>
        rw [L07_light_L1] at h
        refine Stk.sq ?_
        refine Stk.sq ?_
        refine Stk.rg ?_
        obtain ⟨x13, hx13, h⟩ := bnd h
        obtain ⟨i0x13, i1x13, i2x13, _⟩ := idx_ok hx13
        have ex13_3_30 : partOf T.T 30 (encs c32 a0) (v3.toNat * 4 + 3) = some (.ssl (encs c35 x13.Cons) x13.Cons.length false) := by
            have e0 := part_elem0 (e := c32) (z := 4) (T := T.T) (ty := 30) T.t30 (by decide) (by decide) hx13 3 (by decide)
            (try simp only [Nat.mul_one, Nat.add_zero] at e0)
            exact e0.trans (ld_32_3_30 _)
        refine Stk.run 9 (fun t H n => t 0 = .ssl (encs c32 a0) a0.length false ∧ t 3 = .sc (.int .i64 v9) ∧ t 4 = .sc (.int .i64 v3) ∧ t 5 = .sc (.int .i64 v10) ∧ t 34 = .sc (.bool (decide (v10 < (x13.Cons.length : Int))))) (fun J hJ => ?_) ?_
        · simp [-splice, f0, f3, f4, f5, i0x13, i1x13, pd30, ex13_3_30]
          exact hJ _ _ _ ⟨by simp [f0], by simp [f3], by simp [f4], by simp [f5], by simp [-splice, f0, f3, f4, f5, i0x13, i1x13, pd30, ex13_3_30]⟩
        clear f0 f3 f4 f5
        rintro t H n ⟨f0, f3, f4, f5, f34⟩
        refine Stk.jo 3 (fun t H n => t 0 = .ssl (encs c32 a0) a0.length false ∧ t 3 = .sc (.int .i64 v9) ∧ t 4 = .sc (.int .i64 v3) ∧ t 5 = .sc (.int .i64 v10) ∧ t 37 = .sc (.bool ((decide (v10 < (x13.Cons.length : Int))) && (decide (0 ≤ v9))))) (fun J6 hJ6 => ?_) ?_
        · rcases Bool.eq_false_or_eq_true (decide (v10 < (x13.Cons.length : Int))) with hb6 | hb6
          · rw [hb6] at f34
            refine Stk.run 3 (fun t H n => t 0 = .ssl (encs c32 a0) a0.length false ∧ t 3 = .sc (.int .i64 v9) ∧ t 4 = .sc (.int .i64 v3) ∧ t 5 = .sc (.int .i64 v10) ∧ t 37 = .sc (.bool (decide (0 ≤ v9)))) (fun J hJ => ?_) ?_
            · simp [-splice, f0, f3, f4, f5, f34]
              exact hJ _ _ _ ⟨by simp [f0], by simp [f3], by simp [f4], by simp [f5], by simp [-splice, f0, f3, f4, f5, f34]⟩
            clear f0 f3 f4 f5 f34
            rintro t H n ⟨f0, f3, f4, f5, f37⟩
            refine Stk.on ?_
            exact Stk.ln 0 (by decide) (hJ6 _ _ _ ⟨f0, f3, f4, f5, f37.trans (congrArg (fun q => AV.sc (.bool q)) (by rw [hb6]; rfl))⟩)
          · rw [hb6] at f34
            refine Stk.run 3 (fun t H n => t 0 = .ssl (encs c32 a0) a0.length false ∧ t 3 = .sc (.int .i64 v9) ∧ t 4 = .sc (.int .i64 v3) ∧ t 5 = .sc (.int .i64 v10) ∧ t 37 = .sc (.bool false)) (fun J hJ => ?_) ?_
            · simp [-splice, f0, f3, f4, f5, f34]
              exact hJ _ _ _ ⟨by simp [f0], by simp [f3], by simp [f4], by simp [f5], by simp [-splice, f0, f3, f4, f5, f34]⟩
            clear f0 f3 f4 f5 f34
            rintro t H n ⟨f0, f3, f4, f5, f37⟩
            refine Stk.on ?_
            exact Stk.ln 0 (by decide) (hJ6 _ _ _ ⟨f0, f3, f4, f5, f37.trans (congrArg (fun q => AV.sc (.bool q)) (by rw [hb6]; rfl))⟩)
        clear f0 f3 f4 f5 f34
        rintro t H n ⟨f0, f3, f4, f5, f37⟩
        refine Stk.on ?_
        refine Stk.cond ((decide (v10 < (x13.Cons.length : Int))) && (decide (0 ≤ v9))) (by exact f37) (fun hb14 => ?_) (fun hb14 => ?_)
        · have h := cT hb14 h
          refine Stk.sk ?_
          refine Stk.sq ?_
          refine Stk.bk ?_
          obtain ⟨n0, hn0⟩ : ∃ m, m = n := ⟨n, rfl⟩
          have ln0 : n0 ≤ n := Nat.le_of_eq hn0
          refine Stk.rgD [.rd [], .rd [], .rd [], .rd [], .rd [], .rd [], .rd [], .rd [], .rd [], .rd [], .rd [], .rd [], .rd [], .rd [], .rd [], .rd [], .rd [], .rd [], .rd [], .rd [], .rd [], .rd []] none (by kernel_rfl) (by rfl) rfl (by simp [below]) rfl ?_
          obtain ⟨x15, hx15, h⟩ := bnd h
          obtain ⟨i0x15, i1x15, i2x15, _⟩ := idx_ok hx15
          have ex15_3_30 : partOf T.T 30 (encs c32 a0) (v3.toNat * 4 + 3) = some (.ssl (encs c35 x15.Cons) x15.Cons.length false) := by
              have e0 := part_elem0 (e := c32) (z := 4) (T := T.T) (ty := 30) T.t30 (by decide) (by decide) hx15 3 (by decide)
              (try simp only [Nat.mul_one, Nat.add_zero] at e0)
              exact e0.trans (ld_32_3_30 _)
          obtain ⟨x16, hx16, h⟩ := bnd h
          obtain ⟨i0x16, i1x16, i2x16, _⟩ := idx_ok hx16
          have ex16_0_9 : partOf T.T 9 (encs c35 x15.Cons) (v10.toNat * 2) = some (.sc (.string x16.Name)) := by
              have e0 := part_elem0 (e := c35) (z := 2) (T := T.T) (ty := 9) T.t9 (by decide) (by decide) hx16 0 (by decide)
              (try simp only [Nat.mul_one, Nat.add_zero] at e0)
              exact e0.trans (ld_35_0_9 _)
          have ex15_3_30 : partOf T.T 30 (encs c32 a0) (v3.toNat * 4 + 3) = some (.ssl (encs c35 x15.Cons) x15.Cons.length false) := by
              have e0 := part_elem0 (e := c32) (z := 4) (T := T.T) (ty := 30) T.t30 (by decide) (by decide) hx15 3 (by decide)
              (try simp only [Nat.mul_one, Nat.add_zero] at e0)
              exact e0.trans (ld_32_3_30 _)
          have ex16_1_33 : partOf T.T 33 (encs c35 x15.Cons) (v10.toNat * 2 + 1) = some (.ssl (encs c40 x16.Fields) x16.Fields.length false) := by
              have e0 := part_elem0 (e := c35) (z := 2) (T := T.T) (ty := 33) T.t33 (by decide) (by decide) hx16 1 (by decide)
              (try simp only [Nat.mul_one, Nat.add_zero] at e0)
              exact e0.trans (ld_35_1_33 _)
          refine Stk.runD 18 (fun t H n => t 0 = .ssl (encs c32 a0) a0.length false ∧ t 3 = .sc (.int .i64 v9) ∧ t 4 = .sc (.int .i64 v3) ∧ t 5 = .sc (.int .i64 v10) ∧ t 48 = .sc (.string x16.Name) ∧ t 57 = .ssl (encs c40 x16.Fields) x16.Fields.length false ∧ n0 ≤ n) (fun J hJ => ?_) ?_
          · simp [-splice, f0, f3, f4, f5, f37, i0x15, i1x15, pd30, ex15_3_30, i0x16, i1x16, pd9, ex16_0_9, pd33, ex16_1_33]
            exact hJ _ _ _ ⟨by simp [f0], by simp [f3], by simp [f4], by simp [f5], by simp [-splice, f0, f3, f4, f5, f37, i0x15, i1x15, pd30, ex15_3_30, i0x16, i1x16, pd9, ex16_0_9, pd33, ex16_1_33], by simp [-splice, f0, f3, f4, f5, f37, i0x15, i1x15, pd30, ex15_3_30, i0x16, i1x16, pd9, ex16_0_9, pd33, ex16_1_33], ln0⟩
          clear f0 f3 f4 f5 f37 ln0
          rintro t H n ⟨f0, f3, f4, f5, f48, f57, ln0⟩
          refine Stk.ovD rfl (by simp [f0, f3, f4, f5, f48, f57]) rfl (vop_build T.t40 rfl rfl (cs := c40 (api_Type.mk 0 ⟨#[]⟩ [])) (cs' := c40 (api_Type.mk 0 x16.Name x16.Fields)) rfl (.cons f48 rfl rfl rfl rfl (rfl) (by rw [len40]; decide) (st_40_1_9 _ _) (.cons f57 rfl rfl rfl rfl (rfl) (by rw [len40]; decide) (st_40_2_33 _ _) (.nil)))) (by simp [f0, f3, f4, f5, f48, f57]) rfl (fun t' ht' => ?_)
          refine Stk.gen (fun t H n => t 0 = .ssl (encs c32 a0) a0.length false ∧ t 3 = .sc (.int .i64 v9) ∧ t 4 = .sc (.int .i64 v3) ∧ t 5 = .sc (.int .i64 v10) ∧ t 58 = .agg (c40 (api_Type.mk 0 x16.Name x16.Fields)) ∧ n0 ≤ n) ⟨by simp [ht', f0], by simp [ht', f3], by simp [ht', f4], by simp [ht', f5], by simp [ht'], ln0⟩ ?_
          clear f0 f3 f4 f5 f48 f57 ln0 ht' t'
          rintro t H n ⟨f0, f3, f4, f5, f58, ln0⟩
          refine Stk.runD 1 (fun t H n => t 0 = .ssl (encs c32 a0) a0.length false ∧ t 4 = .sc (.int .i64 v3) ∧ t 5 = .sc (.int .i64 v10) ∧ t 58 = .agg (c40 (api_Type.mk 0 x16.Name x16.Fields)) ∧ t 59 = .sc (.int .i64 v9) ∧ n0 ≤ n) (fun J hJ => ?_) ?_
          · simp [-splice, f0, f3, f4, f5, f58]
            exact hJ _ _ _ ⟨by simp [f0], by simp [f4], by simp [f5], by simp [f58], by simp [-splice, f0, f3, f4, f5, f58], ln0⟩
          clear f0 f3 f4 f5 f58 ln0
          rintro t H n ⟨f0, f4, f5, f58, f59, ln0⟩
          obtain ⟨x17, hx17, h⟩ := bnd h
          refine Stk.cvD (g := 14) (args := [.agg (c40 (api_Type.mk 0 x16.Name x16.Fields)), .sc (.int .i64 v9)]) (args' := [.agg (c40 (api_Type.mk 0 x16.Name x16.Fields)), .sc (.int .i64 v9)]) (v := .sc (.int .i64 x17)) [] (ok_R04_LightType F _ _ _ hx17) rfl (by simp) rfl (by simp [f0, f4, f5, f58, f59]) rfl rfl (by simp [f0, f4, f5, f58, f59]) (.cons (.free (fr40 _)) (.cons (.free (rfl)) (.nil))) (.inl ⟨rfl, rfl⟩) (fun t' ht' => ?_)
          refine Stk.gen (fun t H n => t 0 = .ssl (encs c32 a0) a0.length false ∧ t 4 = .sc (.int .i64 v3) ∧ t 5 = .sc (.int .i64 v10) ∧ t 60 = .sc (.int .i64 x17) ∧ n0 ≤ n) ⟨by simp [ht', f0], by simp [ht', f4], by simp [ht', f5], by simp [ht'], ln0⟩ ?_
          clear f0 f4 f5 f58 f59 ln0 ht' t'
          rintro t H n ⟨f0, f4, f5, f60, ln0⟩
          refine Stk.runD 1 (fun t H n => t 0 = .ssl (encs c32 a0) a0.length false ∧ t 3 = .sc (.int .i64 x17) ∧ t 4 = .sc (.int .i64 v3) ∧ t 5 = .sc (.int .i64 v10) ∧ n0 ≤ n) (fun J hJ => ?_) ?_
          · simp [-splice, f0, f4, f5, f60]
            exact hJ _ _ _ ⟨by simp [f0], by simp [-splice, f0, f4, f5, f60], by simp [f4], by simp [f5], ln0⟩
          clear f0 f4 f5 f60 ln0
          rintro t H n ⟨f0, f3, f4, f5, ln0⟩
          refine Stk.onD ?_
          refine Stk.bn ?_
          refine Stk.rg ?_
          refine Stk.run 3 (fun t H n => t 0 = .ssl (encs c32 a0) a0.length false ∧ t 3 = .sc (.int .i64 x17) ∧ t 4 = .sc (.int .i64 v3) ∧ t 5 = .sc (.int .i64 (IntKind.i64.wrap (v10 + 1)))) (fun J hJ => ?_) ?_
          · simp [-splice, f0, f3, f4, f5]
            exact hJ _ _ _ ⟨by simp [f0], by simp [f3], by simp [f4], by simp [-splice, f0, f3, f4, f5]⟩
          clear f0 f3 f4 f5 ln0
          rintro t H n ⟨f0, f3, f4, f5⟩
          refine Stk.on ?_
          exact Stk.ln μ (Nat.lt_succ_self _) (hJ5 _ _ _ _ ⟨x17, (IntKind.i64.wrap (v10 + 1)), h, f0, f3, f4, f5⟩)
        · have h := cF hb14 h
          refine Stk.ex rfl ?_
          exact Stk.ln 0 (by decide) (hJ4 _ _ _ ⟨v9, h, f0, f3, f4⟩)
      clear h f0 f3 f4 f5
      rintro t H n ⟨v8, h, f0, f3, f4⟩
      subst hK4
      refine Stk.bn ?_
      refine Stk.rg ?_
      refine Stk.run 3 (fun t H n => t 0 = .ssl (encs c32 a0) a0.length false ∧ t 3 = .sc (.int .i64 v8) ∧ t 4 = .sc (.int .i64 (IntKind.i64.wrap (v3 + 1)))) (fun J hJ => ?_) ?_
      · simp [-splice, f0, f3, f4]
        exact hJ _ _ _ ⟨by simp [f0], by simp [f3], by simp [-splice, f0, f3, f4]⟩
      clear f0 f3 f4
      rintro t H n ⟨f0, f3, f4⟩
      refine Stk.on ?_
      exact Stk.ln μ (Nat.lt_succ_self _) (hJ2 _ _ _ _ ⟨v8, (IntKind.i64.wrap (v3 + 1)), h, f0, f3, f4⟩)
    · have h := cF hb6 h
      refine Stk.ex rfl ?_
      exact Stk.ln 0 (by decide) (hJ1 _ _ _ ⟨v2, h, f0, f3⟩)
  clear h f0 f3 f4
  rintro t H n ⟨v1, h, f0, f3⟩
  subst hK1
  refine Stk.sq ?_
  refine Stk.rg ?_
  refine Stk.run 3 (fun t H n => t 0 = .ssl (encs c32 a0) a0.length false ∧ t 63 = .sc (.bool (decide (0 ≤ v1)))) (fun J hJ => ?_) ?_
  · simp [-splice, f0, f3]
    exact hJ _ _ _ ⟨by simp [f0], by simp [-splice, f0, f3]⟩
  clear f0 f3
  rintro t H n ⟨f0, f63⟩
  refine Stk.jo 4 (fun t H n => t 67 = .sc (.bool ((decide (0 ≤ v1)) && (decide ((a0.length : Int) ≤ 60))))) (fun J7 hJ7 => ?_) ?_
  · rcases Bool.eq_false_or_eq_true (decide (0 ≤ v1)) with hb7 | hb7
    · rw [hb7] at f63
      refine Stk.run 4 (fun t H n => t 67 = .sc (.bool (decide ((a0.length : Int) ≤ 60)))) (fun J hJ => ?_) ?_
      · simp [-splice, f0, f63]
        exact hJ _ _ _ (by simp [-splice, f0, f63])
      clear f0 f63
      rintro t H n f67
      refine Stk.on ?_
      exact Stk.ln 0 (by decide) (hJ7 _ _ _ (f67.trans (congrArg (fun q => AV.sc (.bool q)) (by rw [hb7]; rfl))))
    · rw [hb7] at f63
      refine Stk.run 4 (fun t H n => t 67 = .sc (.bool false)) (fun J hJ => ?_) ?_
      · simp [-splice, f0, f63]
        exact hJ _ _ _ (by simp [-splice, f0, f63])
      clear f0 f63
      rintro t H n f67
      refine Stk.on ?_
      exact Stk.ln 0 (by decide) (hJ7 _ _ _ (f67.trans (congrArg (fun q => AV.sc (.bool q)) (by rw [hb7]; rfl))))
  clear f0 f63
  rintro t H n f67
  refine Stk.run 1 (fun t H n => t 2 = .sc (.bool ((decide (0 ≤ v1)) && (decide ((a0.length : Int) ≤ 60))))) (fun J hJ => ?_) ?_
  · simp [-splice, f67]
    exact hJ _ _ _ (by simp [-splice, f67])
  clear f67
  rintro t H n f2
  refine Stk.on ?_
  refine Stk.rt ?_
  have hq := Option.some.inj h; subst hq
  exact (hr _ _ _ (.sc (.bool ((decide (0 ≤ v1)) && (decide ((a0.length : Int) ≤ 60))))) ([]) (by simp [f2]) (.inr (.inr (.free (rfl))))).1
theorem ok_L07_awake (F : Nat) (r : Bool) (h : L07_awake F = some r) : RunF Try.prog T.T 7 [] (.sc (.bool r)) := by
  cases h
  exact RunF.x 4000 (by decide +kernel)
theorem ok_ty_Full (F : Nat) (a0 : List api_Data) (r : List Bool) (h : ty_Full F a0 = some r) : RunF Try.prog T.T 10 [.ssl (encs c32 a0) a0.length false] (.ssl (encs c4 r) r.length false) := by
  unfold ty_Full at h
  cases ho : okL a0 with
  | true => rw [ho] at h; cases h; exact full_ok a0 ho
  | false => rw [ho] at h; cases h

theorem ok_slices_IndexFunc_api_Data_api_Data (F : Nat) (a0 : (List api_Data)) (φ1 : api_Data → Option Bool) (g1 : FuncId) (first1 caps1 : List AV) (fr1 : freeL first1 = true ∧ freeL caps1 = true) (hφ1 : ∀ y0 r, φ1 y0 = some r → RunF Try.prog T.T g1 (first1 ++ [.agg (c32 y0)] ++ caps1) (.sc (.bool r))) (r : Int) (h : slices_IndexFunc_api_Data_api_Data F a0 φ1 = some r) : RunF Try.prog T.T 22 [.ssl (encs c32 a0) a0.length false, .fn (.func g1) first1 caps1] (.sc (.int .i64 r)) := by
  rw [slices_IndexFunc_api_Data_api_Data] at h
  refine RunF.z Try.func22 rfl rfl rfl rfl rfl (fun C hr => ?_)
  refine Stk.gen (fun t H n => t 0 = .ssl (encs c32 a0) a0.length false ∧ t 1 = .fn (.func g1) first1 caps1) ⟨by simp, by simp⟩ ?_
  rintro t H n ⟨f0, f1⟩
  refine Stk.sq ?_
  refine Stk.rg ?_
  refine Stk.run 1 (fun t H n => t 0 = .ssl (encs c32 a0) a0.length false ∧ t 1 = .fn (.func g1) first1 caps1) (fun J hJ => ?_) ?_
  · simp [-splice, f0, f1]
    exact hJ _ _ _ ⟨by simp [f0], by simp [f1]⟩
  clear f0 f1
  rintro t H n ⟨f0, f1⟩
  refine Stk.on ?_
  refine Stk.sq ?_
  refine Stk.sq ?_
  refine Stk.rg ?_
  refine Stk.run 3 (fun t H n => t 0 = .ssl (encs c32 a0) a0.length false ∧ t 1 = .fn (.func g1) first1 caps1 ∧ t 7 = .sc (.int .i64 (a0.length : Int)) ∧ t 8 = .sc (.int .i64 0)) (fun J hJ => ?_) ?_
  · simp [-splice, f0, f1]
    exact hJ _ _ _ ⟨by simp [f0], by simp [f1], by simp [-splice, f0, f1], by simp [-splice, f0, f1]⟩
  clear f0 f1
  rintro t H n ⟨f0, f1, f7, f8⟩
  refine Stk.on ?_
  refine Stk.bk ?_
  refine Stk.lo (fun μ t H n => ∃ v1 : Int, slices_IndexFunc_api_Data_api_Data_L0 F a0 φ1 μ v1 = some r ∧ t 0 = .ssl (encs c32 a0) a0.length false ∧ t 1 = .fn (.func g1) first1 caps1 ∧ t 7 = .sc (.int .i64 (a0.length : Int)) ∧ t 8 = .sc (.int .i64 v1)) F ⟨0, h, f0, f1, f7, f8⟩ ?_
  clear h f0 f1 f7 f8
  rintro J1 hJ1 μ t H n ⟨v1, h, f0, f1, f7, f8⟩
  cases μ with
  | zero => exact absurd h (by simp [slices_IndexFunc_api_Data_api_Data_L0])
  | succ μ =>
  rw [slices_IndexFunc_api_Data_api_Data_L0] at h
  refine Stk.sq ?_
  refine Stk.rg ?_
  refine Stk.run 1 (fun t H n => t 0 = .ssl (encs c32 a0) a0.length false ∧ t 1 = .fn (.func g1) first1 caps1 ∧ t 7 = .sc (.int .i64 (a0.length : Int)) ∧ t 8 = .sc (.int .i64 v1) ∧ t 9 = .sc (.bool (decide (v1 < (a0.length : Int))))) (fun J hJ => ?_) ?_
  · simp [-splice, f0, f1, f7, f8]
    exact hJ _ _ _ ⟨by simp [f0], by simp [f1], by simp [f7], by simp [f8], by simp [-splice, f0, f1, f7, f8]⟩
  clear f0 f1 f7 f8
  rintro t H n ⟨f0, f1, f7, f8, f9⟩
  refine Stk.on ?_
  refine Stk.sq ?_
  refine Stk.cond (decide (v1 < (a0.length : Int))) (by exact f9) (fun hb3 => ?_) (fun hb3 => ?_)
  · have h := cT hb3 h
    refine Stk.sk ?_
    refine Stk.sq ?_
    refine Stk.bk ?_
    refine Stk.sq ?_
    refine Stk.rg ?_
    refine Stk.run 2 (fun t H n => t 0 = .ssl (encs c32 a0) a0.length false ∧ t 1 = .fn (.func g1) first1 caps1 ∧ t 5 = .sc (.int .i64 v1) ∧ t 7 = .sc (.int .i64 (a0.length : Int)) ∧ t 8 = .sc (.int .i64 v1)) (fun J hJ => ?_) ?_
    · simp [-splice, f0, f1, f7, f8, f9]
      exact hJ _ _ _ ⟨by simp [f0], by simp [f1], by simp [-splice, f0, f1, f7, f8, f9], by simp [f7], by simp [f8]⟩
    clear f0 f1 f7 f8 f9
    rintro t H n ⟨f0, f1, f5, f7, f8⟩
    refine Stk.on ?_
    refine Stk.sq ?_
    refine Stk.rg ?_
    obtain ⟨x4, hx4, h⟩ := bnd h
    obtain ⟨i0x4, i1x4, i2x4, _⟩ := idx_ok hx4
    have ex4_0_32 : partOf T.T 32 (encs c32 a0) (v1.toNat * 4) = some (.agg (c32 x4)) := by
        have e0 := part_elem0 (e := c32) (z := 4) (T := T.T) (ty := 32) T.t32 (by decide) (by decide) hx4 0 (by decide)
        (try simp only [Nat.mul_one, Nat.add_zero] at e0)
        exact e0.trans (ld_32_0_32 _)
    refine Stk.run 5 (fun t H n => t 0 = .ssl (encs c32 a0) a0.length false ∧ t 1 = .fn (.func g1) first1 caps1 ∧ t 5 = .sc (.int .i64 v1) ∧ t 7 = .sc (.int .i64 (a0.length : Int)) ∧ t 8 = .sc (.int .i64 v1) ∧ t 11 = .fn (.func g1) first1 caps1 ∧ t 15 = .agg (c32 x4)) (fun J hJ => ?_) ?_
    · simp [-splice, f0, f1, f5, f7, f8, i0x4, i1x4, pd32, ex4_0_32]
      exact hJ _ _ _ ⟨by simp [f0], by simp [f1], by simp [f5], by simp [f7], by simp [f8], by simp [-splice, f0, f1, f5, f7, f8, i0x4, i1x4, pd32, ex4_0_32], by simp [-splice, f0, f1, f5, f7, f8, i0x4, i1x4, pd32, ex4_0_32]⟩
    clear f0 f1 f5 f7 f8
    rintro t H n ⟨f0, f1, f5, f7, f8, f11, f15⟩
    obtain ⟨x5, hx5, h⟩ := bnd h
    refine Stk.cv (g := g1) (args := first1 ++ [.agg (c32 x4)] ++ caps1) (args' := first1 ++ [.agg (c32 x4)] ++ caps1) (v := .sc (.bool x5)) [] (hφ1 _ _ hx5) (by simp [f0, f1, f5, f7, f8, f11, f15]) rfl f11 (by simp [f0, f1, f5, f7, f8, f11, f15]) (viewL_mid (x := [.agg (c32 x4)]) (y := [.agg (c32 x4)]) fr1.1 fr1.2 (.cons (.free (fr32 _)) (.nil))) (.inl ⟨rfl, rfl⟩) (fun t' ht' => ?_)
    refine Stk.gen (fun t H n => t 0 = .ssl (encs c32 a0) a0.length false ∧ t 1 = .fn (.func g1) first1 caps1 ∧ t 5 = .sc (.int .i64 v1) ∧ t 7 = .sc (.int .i64 (a0.length : Int)) ∧ t 8 = .sc (.int .i64 v1) ∧ t 16 = .sc (.bool x5)) ⟨by simp [ht', f0], by simp [ht', f1], by simp [ht', f5], by simp [ht', f7], by simp [ht', f8], by simp [ht']⟩ ?_
    clear f0 f1 f5 f7 f8 f11 f15 ht' t'
    rintro t H n ⟨f0, f1, f5, f7, f8, f16⟩
    refine Stk.on ?_
    refine Stk.cond x5 (by exact f16) (fun hb6 => ?_) (fun hb6 => ?_)
    · have h := cT hb6 h
      refine Stk.sq ?_
      refine Stk.rg ?_
      refine Stk.run 2 (fun t H n => t 4 = .sc (.int .i64 v1)) (fun J hJ => ?_) ?_
      · simp [-splice, f0, f1, f5, f7, f8, f16]
        exact hJ _ _ _ (by simp [-splice, f0, f1, f5, f7, f8, f16])
      clear f0 f1 f5 f7 f8 f16
      rintro t H n f4
      refine Stk.on ?_
      refine Stk.rt ?_
      have hq := Option.some.inj h; subst hq
      exact (hr _ _ _ (.sc (.int .i64 v1)) ([]) (by simp [f4]) (.inr (.inr (.free (rfl))))).1
    · have h := cF hb6 h
      refine Stk.sk ?_
      refine Stk.bn ?_
      refine Stk.rg ?_
      refine Stk.run 2 (fun t H n => t 0 = .ssl (encs c32 a0) a0.length false ∧ t 1 = .fn (.func g1) first1 caps1 ∧ t 7 = .sc (.int .i64 (a0.length : Int)) ∧ t 8 = .sc (.int .i64 (IntKind.i64.wrap (v1 + 1)))) (fun J hJ => ?_) ?_
      · simp [-splice, f0, f1, f5, f7, f8, f16]
        exact hJ _ _ _ ⟨by simp [f0], by simp [f1], by simp [f7], by simp [-splice, f0, f1, f5, f7, f8, f16]⟩
      clear f0 f1 f5 f7 f8 f16
      rintro t H n ⟨f0, f1, f7, f8⟩
      refine Stk.on ?_
      exact Stk.ln μ (Nat.lt_succ_self _) (hJ1 _ _ _ _ ⟨(IntKind.i64.wrap (v1 + 1)), h, f0, f1, f7, f8⟩)
  · have h := cF hb3 h
    refine Stk.ex rfl ?_
    refine Stk.sq ?_
    refine Stk.rg ?_
    refine Stk.run 1 (fun t H n => t 4 = .sc (.int .i64 (-1))) (fun J hJ => ?_) ?_
    · simp [-splice, f0, f1, f7, f8, f9]
      exact hJ _ _ _ (by simp [-splice, f0, f1, f7, f8, f9])
    clear f0 f1 f7 f8 f9
    rintro t H n f4
    refine Stk.on ?_
    refine Stk.rt ?_
    have hq := Option.some.inj h; subst hq
    exact (hr _ _ _ (.sc (.int .i64 (-1))) ([]) (by simp [f4]) (.inr (.inr (.free (rfl))))).1
theorem ok_ty_Find_1 (F : Nat) (a0 : api_Data) (a1 : ByteArray) (r : Bool) (h : ty_Find_1 F a0 a1 = some r) : RunF Try.prog T.T 23 [.agg (c32 a0), .sh (c9 a1)] (.sc (.bool r)) := by
  rw [ty_Find_1] at h
  refine RunF.z Try.func23 rfl rfl rfl rfl rfl (fun C hr => ?_)
  refine Stk.gen (fun t H n => t 0 = .agg (c32 a0) ∧ t 1 = .sh (c9 a1)) ⟨by simp, by simp⟩ ?_
  rintro t H n ⟨f0, f1⟩
  refine Stk.sq ?_
  refine Stk.rg ?_
  refine Stk.om (mop_box T.t32 (cs := c32 a0) (by show partOk (t 0) = true; rw [f0]; rfl) (by show cellsOf (t 0) = _; rw [f0]; rfl)) (by simp [f0, f1]) rfl (fun t' ht' => ?_)
  refine Stk.gen (fun t H n => ∃ b1, t 1 = .sh (c9 a1) ∧ t 2 = .own b1 0 ∧ H b1 = some (.cells (c32 a0) 32) ∧ b1 < n) ⟨n, by simp [ht', f1], by simp [ht'], upd_same _ _ _, Nat.lt_succ_self _⟩ ?_
  clear f0 f1 ht' t'
  rintro t H n ⟨b1, f1, f2, b_b1, l_b1⟩
  refine Stk.run 1 (fun t H n => t 1 = .sh (c9 a1) ∧ t 2 = .own b1 0 ∧ H b1 = some (.cells (c32 a0) 32) ∧ b1 < n) (fun J hJ => ?_) ?_
  · simp [-splice, f1, f2, b_b1]
    exact hJ _ _ _ ⟨by simp [f1], by simp [f2], b_b1, l_b1⟩
  clear f1 f2 b_b1 l_b1
  rintro t H n ⟨f1, f2, b_b1, l_b1⟩
  refine Stk.on ?_
  refine Stk.sq ?_
  refine Stk.rg ?_
  refine Stk.run 5 (fun t H n => t 3 = .sc (.bool (a0.Name.toList == a1.toList))) (fun J hJ => ?_) ?_
  · simp [-splice, f1, f2, b_b1, ld_32_2_9, pd9, ld_9_0_9]
    exact hJ _ _ _ (by simp [-splice, f1, f2, b_b1, ld_32_2_9, pd9, ld_9_0_9])
  clear f1 f2 b_b1 l_b1
  rintro t H n f3
  refine Stk.on ?_
  refine Stk.rt ?_
  have hq := Option.some.inj h; subst hq
  exact (hr _ _ _ (.sc (.bool (a0.Name.toList == a1.toList))) ([]) (by simp [f3]) (.inr (.inr (.free (rfl))))).1
theorem ok_ty_Find (F : Nat) (a0 : (List api_Data)) (a1 : ByteArray) (r : Int) (h : ty_Find F a0 a1 = some r) : RunF Try.prog T.T 8 [.ssl (encs c32 a0) a0.length false, .sc (.string a1)] (.sc (.int .i64 r)) := by
  rw [ty_Find] at h
  refine RunF.z Try.func8 rfl rfl rfl rfl rfl (fun C hr => ?_)
  refine Stk.gen (fun t H n => t 0 = .ssl (encs c32 a0) a0.length false ∧ t 1 = .sc (.string a1)) ⟨by simp, by simp⟩ ?_
  rintro t H n ⟨f0, f1⟩
  refine Stk.sq ?_
  refine Stk.rg ?_
  refine Stk.om (mop_box T.t9 (cs := c9 a1) (by show partOk (t 1) = true; rw [f1]; rfl) (by show cellsOf (t 1) = _; rw [f1]; rfl)) (by simp [f0, f1]) rfl (fun t' ht' => ?_)
  refine Stk.gen (fun t H n => ∃ b1, t 0 = .ssl (encs c32 a0) a0.length false ∧ t 3 = .own b1 0 ∧ H b1 = some (.cells (c9 a1) 9) ∧ b1 < n) ⟨n, by simp [ht', f0], by simp [ht'], upd_same _ _ _, Nat.lt_succ_self _⟩ ?_
  clear f0 f1 ht' t'
  rintro t H n ⟨b1, f0, f3, b_b1, l_b1⟩
  refine Stk.run 1 (fun t H n => t 0 = .ssl (encs c32 a0) a0.length false ∧ t 3 = .own b1 0 ∧ H b1 = some (.cells (c9 a1) 9) ∧ b1 < n) (fun J hJ => ?_) ?_
  · simp [-splice, f0, f3, b_b1]
    exact hJ _ _ _ ⟨by simp [f0], by simp [f3], b_b1, l_b1⟩
  clear f0 f3 b_b1 l_b1
  rintro t H n ⟨f0, f3, b_b1, l_b1⟩
  refine Stk.on ?_
  refine Stk.sq ?_
  refine Stk.rg ?_
  refine Stk.run 2 (fun t H n => t 5 = .ssl (encs c32 a0) a0.length false ∧ t 6 = .fn (.func 23) [] [.own b1 0] ∧ H b1 = some (.cells (c9 a1) 9) ∧ b1 < n) (fun J hJ => ?_) ?_
  · simp [-splice, f0, f3, b_b1]
    exact hJ _ _ _ ⟨by simp [-splice, f0, f3, b_b1], by simp [-splice, f0, f3, b_b1], b_b1, l_b1⟩
  clear f0 f3 b_b1 l_b1
  rintro t H n ⟨f5, f6, b_b1, l_b1⟩
  obtain ⟨x2, hx2, h⟩ := bnd h
  refine Stk.cv (g := 22) (args := [.ssl (encs c32 a0) a0.length false, .fn (.func 23) [] [.own b1 0]]) (args' := [.ssl (encs c32 a0) a0.length false, .fn (.func 23) [] [.sh (c9 a1)]]) (v := .sc (.int .i64 x2)) [b1] (ok_slices_IndexFunc_api_Data_api_Data F _ _ 23 [] [.sh (c9 a1)] ⟨by simp [freeL, free, fr9], by simp [freeL, free, fr9]⟩ (fun y0 r h => ok_ty_Find_1 F y0 _ r h) _ hx2) (by simp [f5, f6]) rfl rfl (by simp [f5, f6]) (.cons (.free (freeL_encs fr32 _)) (.cons (.fn .nil (.cons (view_blk b_b1 (by simp) (fr9 _)) (.nil))) (.nil))) (.inr rfl) (fun t' ht' => ?_)
  refine Stk.gen (fun t H n => t 7 = .sc (.int .i64 x2)) (by simp [ht']) ?_
  clear f5 f6 b_b1 l_b1 ht' t'
  rintro t H n f7
  refine Stk.run 1 (fun t H n => t 4 = .sc (.int .i64 x2)) (fun J hJ => ?_) ?_
  · simp [-splice, f7]
    exact hJ _ _ _ (by simp [-splice, f7])
  clear f7
  rintro t H n f4
  refine Stk.on ?_
  refine Stk.rt ?_
  have hq := Option.some.inj h; subst hq
  exact (hr _ _ _ (.sc (.int .i64 x2)) ([]) (by simp [f4]) (.inr (.inr (.free (rfl))))).1
theorem ok_slices_IndexFunc_api_Type_api_Type (F : Nat) (a0 : (List api_Type)) (φ1 : api_Type → Option Bool) (g1 : FuncId) (first1 caps1 : List AV) (fr1 : freeL first1 = true ∧ freeL caps1 = true) (hφ1 : ∀ y0 r, φ1 y0 = some r → RunF Try.prog T.T g1 (first1 ++ [.agg (c40 y0)] ++ caps1) (.sc (.bool r))) (r : Int) (h : slices_IndexFunc_api_Type_api_Type F a0 φ1 = some r) : RunF Try.prog T.T 40 [.ssl (encs c40 a0) a0.length false, .fn (.func g1) first1 caps1] (.sc (.int .i64 r)) := by
  rw [slices_IndexFunc_api_Type_api_Type] at h
  refine RunF.z Try.func40 rfl rfl rfl rfl rfl (fun C hr => ?_)
  refine Stk.gen (fun t H n => t 0 = .ssl (encs c40 a0) a0.length false ∧ t 1 = .fn (.func g1) first1 caps1) ⟨by simp, by simp⟩ ?_
  rintro t H n ⟨f0, f1⟩
  refine Stk.sq ?_
  refine Stk.rg ?_
  refine Stk.run 1 (fun t H n => t 0 = .ssl (encs c40 a0) a0.length false ∧ t 1 = .fn (.func g1) first1 caps1) (fun J hJ => ?_) ?_
  · simp [-splice, f0, f1]
    exact hJ _ _ _ ⟨by simp [f0], by simp [f1]⟩
  clear f0 f1
  rintro t H n ⟨f0, f1⟩
  refine Stk.on ?_
  refine Stk.sq ?_
  refine Stk.sq ?_
  refine Stk.rg ?_
  refine Stk.run 3 (fun t H n => t 0 = .ssl (encs c40 a0) a0.length false ∧ t 1 = .fn (.func g1) first1 caps1 ∧ t 7 = .sc (.int .i64 (a0.length : Int)) ∧ t 8 = .sc (.int .i64 0)) (fun J hJ => ?_) ?_
  · simp [-splice, f0, f1]
    exact hJ _ _ _ ⟨by simp [f0], by simp [f1], by simp [-splice, f0, f1], by simp [-splice, f0, f1]⟩
  clear f0 f1
  rintro t H n ⟨f0, f1, f7, f8⟩
  refine Stk.on ?_
  refine Stk.bk ?_
  refine Stk.lo (fun μ t H n => ∃ v1 : Int, slices_IndexFunc_api_Type_api_Type_L0 F a0 φ1 μ v1 = some r ∧ t 0 = .ssl (encs c40 a0) a0.length false ∧ t 1 = .fn (.func g1) first1 caps1 ∧ t 7 = .sc (.int .i64 (a0.length : Int)) ∧ t 8 = .sc (.int .i64 v1)) F ⟨0, h, f0, f1, f7, f8⟩ ?_
  clear h f0 f1 f7 f8
  rintro J1 hJ1 μ t H n ⟨v1, h, f0, f1, f7, f8⟩
  cases μ with
  | zero => exact absurd h (by simp [slices_IndexFunc_api_Type_api_Type_L0])
  | succ μ =>
  rw [slices_IndexFunc_api_Type_api_Type_L0] at h
  refine Stk.sq ?_
  refine Stk.rg ?_
  refine Stk.run 1 (fun t H n => t 0 = .ssl (encs c40 a0) a0.length false ∧ t 1 = .fn (.func g1) first1 caps1 ∧ t 7 = .sc (.int .i64 (a0.length : Int)) ∧ t 8 = .sc (.int .i64 v1) ∧ t 9 = .sc (.bool (decide (v1 < (a0.length : Int))))) (fun J hJ => ?_) ?_
  · simp [-splice, f0, f1, f7, f8]
    exact hJ _ _ _ ⟨by simp [f0], by simp [f1], by simp [f7], by simp [f8], by simp [-splice, f0, f1, f7, f8]⟩
  clear f0 f1 f7 f8
  rintro t H n ⟨f0, f1, f7, f8, f9⟩
  refine Stk.on ?_
  refine Stk.sq ?_
  refine Stk.cond (decide (v1 < (a0.length : Int))) (by exact f9) (fun hb3 => ?_) (fun hb3 => ?_)
  · have h := cT hb3 h
    refine Stk.sk ?_
    refine Stk.sq ?_
    refine Stk.bk ?_
    refine Stk.sq ?_
    refine Stk.rg ?_
    refine Stk.run 2 (fun t H n => t 0 = .ssl (encs c40 a0) a0.length false ∧ t 1 = .fn (.func g1) first1 caps1 ∧ t 5 = .sc (.int .i64 v1) ∧ t 7 = .sc (.int .i64 (a0.length : Int)) ∧ t 8 = .sc (.int .i64 v1)) (fun J hJ => ?_) ?_
    · simp [-splice, f0, f1, f7, f8, f9]
      exact hJ _ _ _ ⟨by simp [f0], by simp [f1], by simp [-splice, f0, f1, f7, f8, f9], by simp [f7], by simp [f8]⟩
    clear f0 f1 f7 f8 f9
    rintro t H n ⟨f0, f1, f5, f7, f8⟩
    refine Stk.on ?_
    refine Stk.sq ?_
    refine Stk.rg ?_
    obtain ⟨x4, hx4, h⟩ := bnd h
    obtain ⟨i0x4, i1x4, i2x4, _⟩ := idx_ok hx4
    have ex4_0_40 : partOf T.T 40 (encs c40 a0) (v1.toNat * 3) = some (.agg (c40 x4)) := by
        have e0 := part_elem0 (e := c40) (z := 3) (T := T.T) (ty := 40) T.t40 (by decide) (by decide) hx4 0 (by decide)
        (try simp only [Nat.mul_one, Nat.add_zero] at e0)
        exact e0.trans (ld_40_0_40 _)
    refine Stk.run 5 (fun t H n => t 0 = .ssl (encs c40 a0) a0.length false ∧ t 1 = .fn (.func g1) first1 caps1 ∧ t 5 = .sc (.int .i64 v1) ∧ t 7 = .sc (.int .i64 (a0.length : Int)) ∧ t 8 = .sc (.int .i64 v1) ∧ t 11 = .fn (.func g1) first1 caps1 ∧ t 15 = .agg (c40 x4)) (fun J hJ => ?_) ?_
    · simp [-splice, f0, f1, f5, f7, f8, i0x4, i1x4, pd40, ex4_0_40]
      exact hJ _ _ _ ⟨by simp [f0], by simp [f1], by simp [f5], by simp [f7], by simp [f8], by simp [-splice, f0, f1, f5, f7, f8, i0x4, i1x4, pd40, ex4_0_40], by simp [-splice, f0, f1, f5, f7, f8, i0x4, i1x4, pd40, ex4_0_40]⟩
    clear f0 f1 f5 f7 f8
    rintro t H n ⟨f0, f1, f5, f7, f8, f11, f15⟩
    obtain ⟨x5, hx5, h⟩ := bnd h
    refine Stk.cv (g := g1) (args := first1 ++ [.agg (c40 x4)] ++ caps1) (args' := first1 ++ [.agg (c40 x4)] ++ caps1) (v := .sc (.bool x5)) [] (hφ1 _ _ hx5) (by simp [f0, f1, f5, f7, f8, f11, f15]) rfl f11 (by simp [f0, f1, f5, f7, f8, f11, f15]) (viewL_mid (x := [.agg (c40 x4)]) (y := [.agg (c40 x4)]) fr1.1 fr1.2 (.cons (.free (fr40 _)) (.nil))) (.inl ⟨rfl, rfl⟩) (fun t' ht' => ?_)
    refine Stk.gen (fun t H n => t 0 = .ssl (encs c40 a0) a0.length false ∧ t 1 = .fn (.func g1) first1 caps1 ∧ t 5 = .sc (.int .i64 v1) ∧ t 7 = .sc (.int .i64 (a0.length : Int)) ∧ t 8 = .sc (.int .i64 v1) ∧ t 16 = .sc (.bool x5)) ⟨by simp [ht', f0], by simp [ht', f1], by simp [ht', f5], by simp [ht', f7], by simp [ht', f8], by simp [ht']⟩ ?_
    clear f0 f1 f5 f7 f8 f11 f15 ht' t'
    rintro t H n ⟨f0, f1, f5, f7, f8, f16⟩
    refine Stk.on ?_
    refine Stk.cond x5 (by exact f16) (fun hb6 => ?_) (fun hb6 => ?_)
    · have h := cT hb6 h
      refine Stk.sq ?_
      refine Stk.rg ?_
      refine Stk.run 2 (fun t H n => t 4 = .sc (.int .i64 v1)) (fun J hJ => ?_) ?_
      · simp [-splice, f0, f1, f5, f7, f8, f16]
        exact hJ _ _ _ (by simp [-splice, f0, f1, f5, f7, f8, f16])
      clear f0 f1 f5 f7 f8 f16
      rintro t H n f4
      refine Stk.on ?_
      refine Stk.rt ?_
      have hq := Option.some.inj h; subst hq
      exact (hr _ _ _ (.sc (.int .i64 v1)) ([]) (by simp [f4]) (.inr (.inr (.free (rfl))))).1
    · have h := cF hb6 h
      refine Stk.sk ?_
      refine Stk.bn ?_
      refine Stk.rg ?_
      refine Stk.run 2 (fun t H n => t 0 = .ssl (encs c40 a0) a0.length false ∧ t 1 = .fn (.func g1) first1 caps1 ∧ t 7 = .sc (.int .i64 (a0.length : Int)) ∧ t 8 = .sc (.int .i64 (IntKind.i64.wrap (v1 + 1)))) (fun J hJ => ?_) ?_
      · simp [-splice, f0, f1, f5, f7, f8, f16]
        exact hJ _ _ _ ⟨by simp [f0], by simp [f1], by simp [f7], by simp [-splice, f0, f1, f5, f7, f8, f16]⟩
      clear f0 f1 f5 f7 f8 f16
      rintro t H n ⟨f0, f1, f7, f8⟩
      refine Stk.on ?_
      exact Stk.ln μ (Nat.lt_succ_self _) (hJ1 _ _ _ _ ⟨(IntKind.i64.wrap (v1 + 1)), h, f0, f1, f7, f8⟩)
  · have h := cF hb3 h
    refine Stk.ex rfl ?_
    refine Stk.sq ?_
    refine Stk.rg ?_
    refine Stk.run 1 (fun t H n => t 4 = .sc (.int .i64 (-1))) (fun J hJ => ?_) ?_
    · simp [-splice, f0, f1, f7, f8, f9]
      exact hJ _ _ _ (by simp [-splice, f0, f1, f7, f8, f9])
    clear f0 f1 f7 f8 f9
    rintro t H n f4
    refine Stk.on ?_
    refine Stk.rt ?_
    have hq := Option.some.inj h; subst hq
    exact (hr _ _ _ (.sc (.int .i64 (-1))) ([]) (by simp [f4]) (.inr (.inr (.free (rfl))))).1
theorem ok_slices_ContainsFunc_api_Type_api_Type (F : Nat) (a0 : (List api_Type)) (φ1 : api_Type → Option Bool) (g1 : FuncId) (first1 caps1 : List AV) (fr1 : freeL first1 = true ∧ freeL caps1 = true) (hφ1 : ∀ y0 r, φ1 y0 = some r → RunF Try.prog T.T g1 (first1 ++ [.agg (c40 y0)] ++ caps1) (.sc (.bool r))) (r : Bool) (h : slices_ContainsFunc_api_Type_api_Type F a0 φ1 = some r) : RunF Try.prog T.T 30 [.ssl (encs c40 a0) a0.length false, .fn (.func g1) first1 caps1] (.sc (.bool r)) := by
  rw [slices_ContainsFunc_api_Type_api_Type] at h
  refine RunF.z Try.func30 rfl rfl rfl rfl rfl (fun C hr => ?_)
  refine Stk.gen (fun t H n => t 0 = .ssl (encs c40 a0) a0.length false ∧ t 1 = .fn (.func g1) first1 caps1) ⟨by simp, by simp⟩ ?_
  rintro t H n ⟨f0, f1⟩
  refine Stk.sq ?_
  refine Stk.rg ?_
  refine Stk.run 1 (fun t H n => t 0 = .ssl (encs c40 a0) a0.length false ∧ t 1 = .fn (.func g1) first1 caps1) (fun J hJ => ?_) ?_
  · simp [-splice, f0, f1]
    exact hJ _ _ _ ⟨by simp [f0], by simp [f1]⟩
  clear f0 f1
  rintro t H n ⟨f0, f1⟩
  refine Stk.on ?_
  refine Stk.sq ?_
  refine Stk.rg ?_
  refine Stk.run 2 (fun t H n => t 5 = .ssl (encs c40 a0) a0.length false ∧ t 6 = .fn (.func g1) first1 caps1) (fun J hJ => ?_) ?_
  · simp [-splice, f0, f1]
    exact hJ _ _ _ ⟨by simp [-splice, f0, f1], by simp [-splice, f0, f1]⟩
  clear f0 f1
  rintro t H n ⟨f5, f6⟩
  obtain ⟨x1, hx1, h⟩ := bnd h
  refine Stk.cv (g := 40) (args := [.ssl (encs c40 a0) a0.length false, .fn (.func g1) first1 caps1]) (args' := [.ssl (encs c40 a0) a0.length false, .fn (.func g1) first1 caps1]) (v := .sc (.int .i64 x1)) [] (ok_slices_IndexFunc_api_Type_api_Type F _ _ _ _ _ fr1 hφ1 _ hx1) (by simp [f5, f6]) rfl rfl (by simp [f5, f6]) (.cons (.free (freeL_encs fr40 _)) (.cons (.free (by simp [free, fr1])) (.nil))) (.inl ⟨rfl, rfl⟩) (fun t' ht' => ?_)
  refine Stk.gen (fun t H n => t 7 = .sc (.int .i64 x1)) (by simp [ht']) ?_
  clear f5 f6 ht' t'
  rintro t H n f7
  refine Stk.run 2 (fun t H n => t 4 = .sc (.bool (decide (0 ≤ x1)))) (fun J hJ => ?_) ?_
  · simp [-splice, f7]
    exact hJ _ _ _ (by simp [-splice, f7])
  clear f7
  rintro t H n f4
  refine Stk.on ?_
  refine Stk.rt ?_
  have hq := Option.some.inj h; subst hq
  exact (hr _ _ _ (.sc (.bool (decide (0 ≤ x1)))) ([]) (by simp [f4]) (.inr (.inr (.free (rfl))))).1
theorem okB_ty_Known (F : Nat) (ρ11 : (List api_Data) → api_Type → Option Bool) (ρ31 : api_Type → (List api_Data) → Option Bool) (hρ11 : ∀ a0 a1 r, ρ11 a0 a1 = some r → RunF Try.prog T.T 11 [.ssl (encs c32 a0) a0.length false, .agg (c40 a1)] (.sc (.bool r))) (hρ31 : ∀ a0 a1 r, ρ31 a0 a1 = some r → RunF Try.prog T.T 31 [.agg (c40 a0), .sh (c22 a1)] (.sc (.bool r))) (a0 : (List api_Data)) (a1 : api_Type) (r : Bool) (h : ty_Known_B F ρ11 ρ31 a0 a1 = some r) : RunF Try.prog T.T 11 [.ssl (encs c32 a0) a0.length false, .agg (c40 a1)] (.sc (.bool r)) := by
  rw [ty_Known_B] at h
  refine RunF.z Try.func11 rfl rfl rfl rfl rfl (fun C hr => ?_)
  refine Stk.gen (fun t H n => t 0 = .ssl (encs c32 a0) a0.length false ∧ t 1 = .agg (c40 a1)) ⟨by simp, by simp⟩ ?_
  rintro t H n ⟨f0, f1⟩
  refine Stk.sq ?_
  refine Stk.rg ?_
  refine Stk.om (mop_box T.t22 (cs := c22 a0) (by show partOk (t 0) = true; rw [f0]; rfl) (by show cellsOf (t 0) = _; rw [f0]; rfl)) (by simp [f0, f1]) rfl (fun t' ht' => ?_)
  refine Stk.gen (fun t H n => ∃ b1, t 1 = .agg (c40 a1) ∧ t 2 = .own b1 0 ∧ H b1 = some (.cells (c22 a0) 22) ∧ b1 < n) ⟨n, by simp [ht', f1], by simp [ht'], upd_same _ _ _, Nat.lt_succ_self _⟩ ?_
  clear f0 f1 ht' t'
  rintro t H n ⟨b1, f1, f2, b_b1, l_b1⟩
  refine Stk.om (mop_box T.t40 (cs := c40 a1) (by show partOk (t 1) = true; rw [f1]; rfl) (by show cellsOf (t 1) = _; rw [f1]; rfl)) (by simp [f1, f2]) rfl (fun t' ht' => ?_)
  refine Stk.gen (fun t H n => ∃ b2, t 2 = .own b1 0 ∧ t 3 = .own b2 0 ∧ H b1 = some (.cells (c22 a0) 22) ∧ b1 < n ∧ H b2 = some (.cells (c40 a1) 40) ∧ b2 < n ∧ b1 ≠ b2) ⟨n, by simp [ht', f2], by simp [ht'], (upd_ne _ _ (Nat.ne_of_lt l_b1)).trans b_b1, Nat.lt_succ_of_lt l_b1, upd_same _ _ _, Nat.lt_succ_self _, Nat.ne_of_lt l_b1⟩ ?_
  clear f1 f2 b_b1 l_b1 ht' t'
  rintro t H n ⟨b2, f2, f3, b_b1, l_b1, b_b2, l_b2, d_b1_b2⟩
  refine Stk.run 1 (fun t H n => t 2 = .own b1 0 ∧ t 3 = .own b2 0 ∧ H b1 = some (.cells (c22 a0) 22) ∧ b1 < n ∧ H b2 = some (.cells (c40 a1) 40) ∧ b2 < n ∧ b1 ≠ b2) (fun J hJ => ?_) ?_
  · simp [-splice, f2, f3, b_b1, b_b2]
    exact hJ _ _ _ ⟨by simp [f2], by simp [f3], b_b1, l_b1, b_b2, l_b2, d_b1_b2⟩
  clear f2 f3 b_b1 l_b1 b_b2 l_b2 d_b1_b2
  rintro t H n ⟨f2, f3, b_b1, l_b1, b_b2, l_b2, d_b1_b2⟩
  refine Stk.on ?_
  refine Stk.sq ?_
  refine Stk.sq ?_
  refine Stk.rg ?_
  refine Stk.run 4 (fun t H n => t 2 = .own b1 0 ∧ t 3 = .own b2 0 ∧ t 8 = .sc (.bool (a1.Kind == 2)) ∧ H b1 = some (.cells (c22 a0) 22) ∧ b1 < n ∧ H b2 = some (.cells (c40 a1) 40) ∧ b2 < n ∧ b1 ≠ b2) (fun J hJ => ?_) ?_
  · simp [-splice, f2, f3, b_b1, b_b2, ld_40_0_3]
    exact hJ _ _ _ ⟨by simp [f2], by simp [f3], by simp [-splice, f2, f3, b_b1, b_b2, ld_40_0_3], b_b1, l_b1, b_b2, l_b2, d_b1_b2⟩
  clear f2 f3 b_b1 l_b1 b_b2 l_b2 d_b1_b2
  rintro t H n ⟨f2, f3, f8, b_b1, l_b1, b_b2, l_b2, d_b1_b2⟩
  obtain ⟨K1, hK1, h⟩ := jnd h
  refine Stk.jo 6 (fun t H n => ∃ v3 : Bool, K1 v3 = some r ∧ t 2 = .own b1 0 ∧ t 3 = .own b2 0 ∧ t 14 = .sc (.bool v3) ∧ H b1 = some (.cells (c22 a0) 22) ∧ b1 < n ∧ H b2 = some (.cells (c40 a1) 40) ∧ b2 < n ∧ b1 ≠ b2) (fun J1 hJ1 => ?_) ?_
  · rcases Bool.eq_false_or_eq_true (a1.Kind == 2) with hb1 | hb1
    · rw [hb1] at f8
      replace h := cT hb1 h
      refine Stk.run 3 (fun t H n => t 2 = .own b1 0 ∧ t 3 = .own b2 0 ∧ t 8 = .sc (.bool true) ∧ t 9 = .ssl (encs c32 a0) a0.length false ∧ t 11 = .sc (.string a1.Name) ∧ H b1 = some (.cells (c22 a0) 22) ∧ b1 < n ∧ H b2 = some (.cells (c40 a1) 40) ∧ b2 < n ∧ b1 ≠ b2) (fun J hJ => ?_) ?_
      · simp [-splice, f2, f3, f8, b_b1, b_b2, ld_22_0_22, ld_40_1_9]
        exact hJ _ _ _ ⟨by simp [f2], by simp [f3], by simp [f8], by simp [-splice, f2, f3, f8, b_b1, b_b2, ld_22_0_22, ld_40_1_9], by simp [-splice, f2, f3, f8, b_b1, b_b2, ld_22_0_22, ld_40_1_9], b_b1, l_b1, b_b2, l_b2, d_b1_b2⟩
      clear f2 f3 f8 b_b1 l_b1 b_b2 l_b2 d_b1_b2
      rintro t H n ⟨f2, f3, f8, f9, f11, b_b1, l_b1, b_b2, l_b2, d_b1_b2⟩
      obtain ⟨x4, hx4, h⟩ := bnd h
      refine Stk.cv (g := 8) (args := [.ssl (encs c32 a0) a0.length false, .sc (.string a1.Name)]) (args' := [.ssl (encs c32 a0) a0.length false, .sc (.string a1.Name)]) (v := .sc (.int .i64 x4)) [] (ok_ty_Find F _ _ _ hx4) (by simp [f2, f3, f8, f9, f11]) rfl rfl (by simp [f2, f3, f8, f9, f11]) (.cons (.free (freeL_encs fr32 _)) (.cons (.free (rfl)) (.nil))) (.inl ⟨rfl, rfl⟩) (fun t' ht' => ?_)
      refine Stk.gen (fun t H n => t 2 = .own b1 0 ∧ t 3 = .own b2 0 ∧ t 8 = .sc (.bool true) ∧ t 12 = .sc (.int .i64 x4) ∧ H b1 = some (.cells (c22 a0) 22) ∧ b1 < n ∧ H b2 = some (.cells (c40 a1) 40) ∧ b2 < n ∧ b1 ≠ b2) ⟨by simp [ht', f2], by simp [ht', f3], by simp [ht', f8], by simp [ht'], b_b1, l_b1, b_b2, l_b2, d_b1_b2⟩ ?_
      clear f2 f3 f8 f9 f11 b_b1 l_b1 b_b2 l_b2 d_b1_b2 ht' t'
      rintro t H n ⟨f2, f3, f8, f12, b_b1, l_b1, b_b2, l_b2, d_b1_b2⟩
      refine Stk.run 2 (fun t H n => t 2 = .own b1 0 ∧ t 3 = .own b2 0 ∧ t 14 = .sc (.bool (decide (x4 < 0))) ∧ H b1 = some (.cells (c22 a0) 22) ∧ b1 < n ∧ H b2 = some (.cells (c40 a1) 40) ∧ b2 < n ∧ b1 ≠ b2) (fun J hJ => ?_) ?_
      · simp [-splice, f2, f3, f8, f12, b_b1, b_b2]
        exact hJ _ _ _ ⟨by simp [f2], by simp [f3], by simp [-splice, f2, f3, f8, f12, b_b1, b_b2], b_b1, l_b1, b_b2, l_b2, d_b1_b2⟩
      clear f2 f3 f8 f12 b_b1 l_b1 b_b2 l_b2 d_b1_b2
      rintro t H n ⟨f2, f3, f14, b_b1, l_b1, b_b2, l_b2, d_b1_b2⟩
      refine Stk.on ?_
      exact Stk.ln 0 (by decide) (hJ1 _ _ _ ⟨(decide (x4 < 0)), h, f2, f3, f14, b_b1, l_b1, b_b2, l_b2, d_b1_b2⟩)
    · rw [hb1] at f8
      replace h := cF hb1 h
      refine Stk.run 6 (fun t H n => t 2 = .own b1 0 ∧ t 3 = .own b2 0 ∧ t 14 = .sc (.bool false) ∧ H b1 = some (.cells (c22 a0) 22) ∧ b1 < n ∧ H b2 = some (.cells (c40 a1) 40) ∧ b2 < n ∧ b1 ≠ b2) (fun J hJ => ?_) ?_
      · simp [-splice, f2, f3, f8, b_b1, b_b2]
        exact hJ _ _ _ ⟨by simp [f2], by simp [f3], by simp [-splice, f2, f3, f8, b_b1, b_b2], b_b1, l_b1, b_b2, l_b2, d_b1_b2⟩
      clear f2 f3 f8 b_b1 l_b1 b_b2 l_b2 d_b1_b2
      rintro t H n ⟨f2, f3, f14, b_b1, l_b1, b_b2, l_b2, d_b1_b2⟩
      refine Stk.on ?_
      exact Stk.ln 0 (by decide) (hJ1 _ _ _ ⟨false, h, f2, f3, f14, b_b1, l_b1, b_b2, l_b2, d_b1_b2⟩)
  clear h f2 f3 f8 b_b1 l_b1 b_b2 l_b2 d_b1_b2
  rintro t H n ⟨v3, h, f2, f3, f14, b_b1, l_b1, b_b2, l_b2, d_b1_b2⟩
  subst hK1
  refine Stk.on ?_
  refine Stk.cond v3 (by exact f14) (fun hb5 => ?_) (fun hb5 => ?_)
  · have h := cT hb5 h
    refine Stk.sq ?_
    refine Stk.rg ?_
    refine Stk.run 1 (fun t H n => t 4 = .sc (.bool false)) (fun J hJ => ?_) ?_
    · simp [-splice, f2, f3, f14, b_b1, b_b2]
      exact hJ _ _ _ (by simp [-splice, f2, f3, f14, b_b1, b_b2])
    clear f2 f3 f14 b_b1 l_b1 b_b2 l_b2 d_b1_b2
    rintro t H n f4
    refine Stk.on ?_
    refine Stk.rt ?_
    have hq := Option.some.inj h; subst hq
    exact (hr _ _ _ (.sc (.bool false)) ([]) (by simp [f4]) (.inr (.inr (.free (rfl))))).1
  · have h := cF hb5 h
    refine Stk.sk ?_
    refine Stk.sq ?_
    refine Stk.rg ?_
    refine Stk.run 3 (fun t H n => t 16 = .ssl (encs c40 a1.Parts) a1.Parts.length false ∧ t 17 = .fn (.func 31) [] [.own b1 0] ∧ H b1 = some (.cells (c22 a0) 22) ∧ b1 < n) (fun J hJ => ?_) ?_
    · simp [-splice, f2, f3, f14, b_b1, b_b2, ld_40_2_33]
      exact hJ _ _ _ ⟨by simp [-splice, f2, f3, f14, b_b1, b_b2, ld_40_2_33], by simp [-splice, f2, f3, f14, b_b1, b_b2, ld_40_2_33], b_b1, l_b1⟩
    clear f2 f3 f14 b_b1 l_b1 b_b2 l_b2 d_b1_b2
    rintro t H n ⟨f16, f17, b_b1, l_b1⟩
    obtain ⟨x6, hx6, h⟩ := bnd h
    refine Stk.cv (g := 30) (args := [.ssl (encs c40 a1.Parts) a1.Parts.length false, .fn (.func 31) [] [.own b1 0]]) (args' := [.ssl (encs c40 a1.Parts) a1.Parts.length false, .fn (.func 31) [] [.sh (c22 a0)]]) (v := .sc (.bool x6)) [b1] (ok_slices_ContainsFunc_api_Type_api_Type F _ _ 31 [] [.sh (c22 a0)] ⟨by simp [freeL, free, fr22, freeL_encs fr32], by simp [freeL, free, fr22, freeL_encs fr32]⟩ (fun y0 r h => hρ31 y0 _ r h) _ hx6) (by simp [f16, f17]) rfl rfl (by simp [f16, f17]) (.cons (.free (freeL_encs fr40 _)) (.cons (.fn .nil (.cons (view_blk b_b1 (by simp) (fr22 _)) (.nil))) (.nil))) (.inr rfl) (fun t' ht' => ?_)
    refine Stk.gen (fun t H n => t 18 = .sc (.bool x6)) (by simp [ht']) ?_
    clear f16 f17 b_b1 l_b1 ht' t'
    rintro t H n f18
    refine Stk.run 2 (fun t H n => t 4 = .sc (.bool (!x6))) (fun J hJ => ?_) ?_
    · simp [-splice, f18]
      exact hJ _ _ _ (by simp [-splice, f18])
    clear f18
    rintro t H n f4
    refine Stk.on ?_
    refine Stk.rt ?_
    have hq := Option.some.inj h; subst hq
    exact (hr _ _ _ (.sc (.bool (!x6))) ([]) (by simp [f4]) (.inr (.inr (.free (rfl))))).1
theorem okB_ty_Known_1 (F : Nat) (ρ11 : (List api_Data) → api_Type → Option Bool) (ρ31 : api_Type → (List api_Data) → Option Bool) (hρ11 : ∀ a0 a1 r, ρ11 a0 a1 = some r → RunF Try.prog T.T 11 [.ssl (encs c32 a0) a0.length false, .agg (c40 a1)] (.sc (.bool r))) (hρ31 : ∀ a0 a1 r, ρ31 a0 a1 = some r → RunF Try.prog T.T 31 [.agg (c40 a0), .sh (c22 a1)] (.sc (.bool r))) (a0 : api_Type) (a1 : (List api_Data)) (r : Bool) (h : ty_Known_1_B F ρ11 ρ31 a0 a1 = some r) : RunF Try.prog T.T 31 [.agg (c40 a0), .sh (c22 a1)] (.sc (.bool r)) := by
  rw [ty_Known_1_B] at h
  refine RunF.z Try.func31 rfl rfl rfl rfl rfl (fun C hr => ?_)
  refine Stk.gen (fun t H n => t 0 = .agg (c40 a0) ∧ t 1 = .sh (c22 a1)) ⟨by simp, by simp⟩ ?_
  rintro t H n ⟨f0, f1⟩
  refine Stk.sq ?_
  refine Stk.rg ?_
  refine Stk.om (mop_box T.t40 (cs := c40 a0) (by show partOk (t 0) = true; rw [f0]; rfl) (by show cellsOf (t 0) = _; rw [f0]; rfl)) (by simp [f0, f1]) rfl (fun t' ht' => ?_)
  refine Stk.gen (fun t H n => ∃ b1, t 1 = .sh (c22 a1) ∧ t 2 = .own b1 0 ∧ H b1 = some (.cells (c40 a0) 40) ∧ b1 < n) ⟨n, by simp [ht', f1], by simp [ht'], upd_same _ _ _, Nat.lt_succ_self _⟩ ?_
  clear f0 f1 ht' t'
  rintro t H n ⟨b1, f1, f2, b_b1, l_b1⟩
  refine Stk.run 1 (fun t H n => t 1 = .sh (c22 a1) ∧ t 2 = .own b1 0 ∧ H b1 = some (.cells (c40 a0) 40) ∧ b1 < n) (fun J hJ => ?_) ?_
  · simp [-splice, f1, f2, b_b1]
    exact hJ _ _ _ ⟨by simp [f1], by simp [f2], b_b1, l_b1⟩
  clear f1 f2 b_b1 l_b1
  rintro t H n ⟨f1, f2, b_b1, l_b1⟩
  refine Stk.on ?_
  refine Stk.sq ?_
  refine Stk.rg ?_
  refine Stk.run 2 (fun t H n => t 4 = .ssl (encs c32 a1) a1.length false ∧ t 5 = .agg (c40 a0)) (fun J hJ => ?_) ?_
  · simp [-splice, f1, f2, b_b1, pd22, ld_22_0_22, ld_40_0_40]
    exact hJ _ _ _ ⟨by simp [-splice, f1, f2, b_b1, pd22, ld_22_0_22, ld_40_0_40], by simp [-splice, f1, f2, b_b1, pd22, ld_22_0_22, ld_40_0_40]⟩
  clear f1 f2 b_b1 l_b1
  rintro t H n ⟨f4, f5⟩
  obtain ⟨x2, hx2, h⟩ := bnd h
  refine Stk.cv (g := 11) (args := [.ssl (encs c32 a1) a1.length false, .agg (c40 a0)]) (args' := [.ssl (encs c32 a1) a1.length false, .agg (c40 a0)]) (v := .sc (.bool x2)) [] (hρ11 _ _ _ hx2) (by simp [f4, f5]) rfl rfl (by simp [f4, f5]) (.cons (.free (freeL_encs fr32 _)) (.cons (.free (fr40 _)) (.nil))) (.inl ⟨rfl, rfl⟩) (fun t' ht' => ?_)
  refine Stk.gen (fun t H n => t 6 = .sc (.bool x2)) (by simp [ht']) ?_
  clear f4 f5 ht' t'
  rintro t H n f6
  refine Stk.run 2 (fun t H n => t 3 = .sc (.bool (!x2))) (fun J hJ => ?_) ?_
  · simp [-splice, f6]
    exact hJ _ _ _ (by simp [-splice, f6])
  clear f6
  rintro t H n f3
  refine Stk.on ?_
  refine Stk.rt ?_
  have hq := Option.some.inj h; subst hq
  exact (hr _ _ _ (.sc (.bool (!x2))) ([]) (by simp [f3]) (.inr (.inr (.free (rfl))))).1
theorem okG_ty_Known : ∀ F : Nat, (∀ (a0 : (List api_Data)) (a1 : api_Type) (r : Bool), ty_Known F a0 a1 = some r → RunF Try.prog T.T 11 [.ssl (encs c32 a0) a0.length false, .agg (c40 a1)] (.sc (.bool r))) ∧ (∀ (a0 : api_Type) (a1 : (List api_Data)) (r : Bool), ty_Known_1 F a0 a1 = some r → RunF Try.prog T.T 31 [.agg (c40 a0), .sh (c22 a1)] (.sc (.bool r)))
  | 0 => ⟨(fun a0 a1 r h => by rw [ty_Known] at h; cases h), (fun a0 a1 r h => by rw [ty_Known_1] at h; cases h)⟩
  | F + 1 => ⟨(fun a0 a1 r h => okB_ty_Known F (ty_Known F) (ty_Known_1 F) (okG_ty_Known F).1 (okG_ty_Known F).2 a0 a1 r (by rw [ty_Known] at h; exact h)), (fun a0 a1 r h => okB_ty_Known_1 F (ty_Known F) (ty_Known_1 F) (okG_ty_Known F).1 (okG_ty_Known F).2 a0 a1 r (by rw [ty_Known_1] at h; exact h))⟩
theorem ok_ty_Known (F : Nat) (a0 : (List api_Data)) (a1 : api_Type) (r : Bool) (h : ty_Known F a0 a1 = some r) : RunF Try.prog T.T 11 [.ssl (encs c32 a0) a0.length false, .agg (c40 a1)] (.sc (.bool r)) := (okG_ty_Known F).1 a0 a1 r h
theorem ok_ty_Known_1 (F : Nat) (a0 : api_Type) (a1 : (List api_Data)) (r : Bool) (h : ty_Known_1 F a0 a1 = some r) : RunF Try.prog T.T 31 [.agg (c40 a0), .sh (c22 a1)] (.sc (.bool r)) := (okG_ty_Known F).2 a0 a1 r h


theorem ok_R07_Find (F : Nat) (a0 : (List api_Data)) (a1 : ByteArray) (r : Int) (h : R07_Find F a0 a1 = some r) : RunF Try.prog T.T 12 [.ssl (encs c32 a0) a0.length false, .sc (.string a1)] (.sc (.int .i64 r)) := by
  rw [R07_Find] at h
  refine RunF.z Try.func12 rfl rfl rfl rfl rfl (fun C hr => ?_)
  refine Stk.gen (fun t H n => t 0 = .ssl (encs c32 a0) a0.length false ∧ t 1 = .sc (.string a1)) ⟨by simp, by simp⟩ ?_
  rintro t H n ⟨f0, f1⟩
  refine Stk.sq ?_
  refine Stk.rg ?_
  refine Stk.run 1 (fun t H n => t 0 = .ssl (encs c32 a0) a0.length false ∧ t 1 = .sc (.string a1)) (fun J hJ => ?_) ?_
  · simp [-splice, f0, f1]
    exact hJ _ _ _ ⟨by simp [f0], by simp [f1]⟩
  clear f0 f1
  rintro t H n ⟨f0, f1⟩
  refine Stk.on ?_
  refine Stk.sq ?_
  refine Stk.sq ?_
  refine Stk.rg ?_
  refine Stk.run 1 (fun t H n => t 0 = .ssl (encs c32 a0) a0.length false ∧ t 1 = .sc (.string a1) ∧ t 5 = .sc (.int .i64 0)) (fun J hJ => ?_) ?_
  · simp [-splice, f0, f1]
    exact hJ _ _ _ ⟨by simp [f0], by simp [f1], by simp [-splice, f0, f1]⟩
  clear f0 f1
  rintro t H n ⟨f0, f1, f5⟩
  refine Stk.on ?_
  refine Stk.bk ?_
  refine Stk.lo (fun μ t H n => ∃ v1 : Int, R07_Find_L0 F a0 a1 μ v1 = some r ∧ t 0 = .ssl (encs c32 a0) a0.length false ∧ t 1 = .sc (.string a1) ∧ t 5 = .sc (.int .i64 v1)) F ⟨0, h, f0, f1, f5⟩ ?_
  clear h f0 f1 f5
  rintro J1 hJ1 μ t H n ⟨v1, h, f0, f1, f5⟩
  cases μ with
  | zero => exact absurd h (by simp [R07_Find_L0])
  | succ μ =>
  rw [R07_Find_L0] at h
  refine Stk.sq ?_
  refine Stk.sq ?_
  refine Stk.rg ?_
  refine Stk.run 4 (fun t H n => t 0 = .ssl (encs c32 a0) a0.length false ∧ t 1 = .sc (.string a1) ∧ t 5 = .sc (.int .i64 v1) ∧ t 9 = .sc (.bool (decide (v1 < (a0.length : Int))))) (fun J hJ => ?_) ?_
  · simp [-splice, f0, f1, f5]
    exact hJ _ _ _ ⟨by simp [f0], by simp [f1], by simp [f5], by simp [-splice, f0, f1, f5]⟩
  clear f0 f1 f5
  rintro t H n ⟨f0, f1, f5, f9⟩
  refine Stk.on ?_
  refine Stk.cond (decide (v1 < (a0.length : Int))) (by exact f9) (fun hb3 => ?_) (fun hb3 => ?_)
  · have h := cT hb3 h
    refine Stk.sk ?_
    refine Stk.sq ?_
    refine Stk.bk ?_
    refine Stk.sq ?_
    refine Stk.rg ?_
    obtain ⟨x4, hx4, h⟩ := bnd h
    obtain ⟨i0x4, i1x4, i2x4, _⟩ := idx_ok hx4
    have ex4_2_9 : partOf T.T 9 (encs c32 a0) (v1.toNat * 4 + 2) = some (.sc (.string x4.Name)) := by
        have e0 := part_elem0 (e := c32) (z := 4) (T := T.T) (ty := 9) T.t9 (by decide) (by decide) hx4 2 (by decide)
        (try simp only [Nat.mul_one, Nat.add_zero] at e0)
        exact e0.trans (ld_32_2_9 _)
    refine Stk.run 7 (fun t H n => t 0 = .ssl (encs c32 a0) a0.length false ∧ t 1 = .sc (.string a1) ∧ t 5 = .sc (.int .i64 v1) ∧ t 18 = .sc (.bool (x4.Name.toList == a1.toList))) (fun J hJ => ?_) ?_
    · simp [-splice, f0, f1, f5, f9, i0x4, i1x4, pd9, ex4_2_9]
      exact hJ _ _ _ ⟨by simp [f0], by simp [f1], by simp [f5], by simp [-splice, f0, f1, f5, f9, i0x4, i1x4, pd9, ex4_2_9]⟩
    clear f0 f1 f5 f9
    rintro t H n ⟨f0, f1, f5, f18⟩
    refine Stk.on ?_
    refine Stk.cond (x4.Name.toList == a1.toList) (by exact f18) (fun hb5 => ?_) (fun hb5 => ?_)
    · have h := cT hb5 h
      refine Stk.sq ?_
      refine Stk.rg ?_
      refine Stk.run 2 (fun t H n => t 4 = .sc (.int .i64 v1)) (fun J hJ => ?_) ?_
      · simp [-splice, f0, f1, f5, f18]
        exact hJ _ _ _ (by simp [-splice, f0, f1, f5, f18])
      clear f0 f1 f5 f18
      rintro t H n f4
      refine Stk.on ?_
      refine Stk.rt ?_
      have hq := Option.some.inj h; subst hq
      exact (hr _ _ _ (.sc (.int .i64 v1)) ([]) (by simp [f4]) (.inr (.inr (.free (rfl))))).1
    · have h := cF hb5 h
      refine Stk.sk ?_
      refine Stk.bn ?_
      refine Stk.rg ?_
      refine Stk.run 3 (fun t H n => t 0 = .ssl (encs c32 a0) a0.length false ∧ t 1 = .sc (.string a1) ∧ t 5 = .sc (.int .i64 (IntKind.i64.wrap (v1 + 1)))) (fun J hJ => ?_) ?_
      · simp [-splice, f0, f1, f5, f18]
        exact hJ _ _ _ ⟨by simp [f0], by simp [f1], by simp [-splice, f0, f1, f5, f18]⟩
      clear f0 f1 f5 f18
      rintro t H n ⟨f0, f1, f5⟩
      refine Stk.on ?_
      exact Stk.ln μ (Nat.lt_succ_self _) (hJ1 _ _ _ _ ⟨(IntKind.i64.wrap (v1 + 1)), h, f0, f1, f5⟩)
  · have h := cF hb3 h
    refine Stk.ex rfl ?_
    refine Stk.sq ?_
    refine Stk.rg ?_
    refine Stk.run 1 (fun t H n => t 4 = .sc (.int .i64 (-1))) (fun J hJ => ?_) ?_
    · simp [-splice, f0, f1, f5, f9]
      exact hJ _ _ _ (by simp [-splice, f0, f1, f5, f9])
    clear f0 f1 f5 f9
    rintro t H n f4
    refine Stk.on ?_
    refine Stk.rt ?_
    have hq := Option.some.inj h; subst hq
    exact (hr _ _ _ (.sc (.int .i64 (-1))) ([]) (by simp [f4]) (.inr (.inr (.free (rfl))))).1
end Go.Proofs.Ytappiofmkoelnaa.M
