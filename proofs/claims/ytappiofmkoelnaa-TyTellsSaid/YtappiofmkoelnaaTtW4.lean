/-
  The functions come to them.
-/
import Derived.Test.YtappiofmkoelnaaTtM
import Derived.Test.YtappiofmkoelnaaTtW3
namespace Go.Proofs.Ytappiofmkoelnaa.M
open Go.Proofs.YtappiofmkoelnaaW.Ah Go.Proofs.Ytappiofmkoelnaa
set_option linter.unusedVariables false
set_option linter.unusedSimpArgs false
set_option maxRecDepth 8000
attribute [local simp] T.t3 T.t9 T.t22 T.t30 T.t32 T.t33 T.t35 T.t40 T.t51 List.range List.range.loop
attribute [-simp] appendAV fillAV
theorem okB_ty_own (F : Nat) (ρ34 : api_Type → Option api_Type) (hρ34 : ∀ a0 r, ρ34 a0 = some r → RunF Try.prog T.T 34 [.agg (c40 a0)] (.agg (c40 r))) (a0 : api_Type) (r : api_Type) (h : ty_own_B F ρ34 a0 = some r) : RunF Try.prog T.T 34 [.agg (c40 a0)] (.agg (c40 r)) := by
  rw [ty_own_B] at h
  refine RunF.z Try.func34 rfl rfl rfl rfl rfl (fun C hr => ?_)
  refine Stk.gen (fun t H n => t 0 = .agg (c40 a0)) (by simp) ?_
  rintro t H n f0
  refine Stk.sq ?_
  refine Stk.rg ?_
  refine Stk.om (mop_box T.t40 (cs := c40 a0) (by show partOk (t 0) = true; rw [f0]; rfl) (by show cellsOf (t 0) = _; rw [f0]; rfl)) (by simp [f0]) rfl (fun t' ht' => ?_)
  refine Stk.gen (fun t H n => ∃ b1, t 1 = .own b1 0 ∧ H b1 = some (.cells (c40 a0) 40) ∧ b1 < n) ⟨n, by simp [ht'], upd_same _ _ _, Nat.lt_succ_self _⟩ ?_
  clear f0 ht' t'
  rintro t H n ⟨b1, f1, b_b1, l_b1⟩
  refine Stk.oz T.t40 (cs := c40 (api_Type.mk 0 ⟨#[]⟩ [])) (by rw [u40]; rfl) rfl (by simp [f1]) rfl (fun t' ht' => ?_)
  refine Stk.gen (fun t H n => ∃ b2, t 1 = .own b1 0 ∧ t 2 = .own b2 0 ∧ H b1 = some (.cells (c40 a0) 40) ∧ b1 < n ∧ H b2 = some (.cells (c40 (api_Type.mk 0 ⟨#[]⟩ [])) 40) ∧ b2 < n ∧ b1 ≠ b2) ⟨n, by simp [ht', f1], by simp [ht'], (upd_ne _ _ (Nat.ne_of_lt l_b1)).trans b_b1, Nat.lt_succ_of_lt l_b1, upd_same _ _ _, Nat.lt_succ_self _, Nat.ne_of_lt l_b1⟩ ?_
  clear f1 b_b1 l_b1 ht' t'
  rintro t H n ⟨b2, f1, f2, b_b1, l_b1, b_b2, l_b2, d_b1_b2⟩
  refine Stk.on ?_
  refine Stk.sq ?_
  refine Stk.rg ?_
  refine Stk.run 1 (fun t H n => t 1 = .own b1 0 ∧ t 2 = .own b2 0 ∧ t 3 = .sc (.slice none 0 0) ∧ H b1 = some (.cells (c40 a0) 40) ∧ b1 < n ∧ H b2 = some (.cells (c40 (api_Type.mk 0 ⟨#[]⟩ [])) 40) ∧ b2 < n ∧ b1 ≠ b2) (fun J hJ => ?_) ?_
  · simp [-splice, f1, f2, b_b1, b_b2]
    exact hJ _ _ _ ⟨by simp [f1], by simp [f2], by simp [-splice, f1, f2, b_b1, b_b2], b_b1, l_b1, b_b2, l_b2, d_b1_b2⟩
  clear f1 f2 b_b1 l_b1 b_b2 l_b2 d_b1_b2
  rintro t H n ⟨f1, f2, f3, b_b1, l_b1, b_b2, l_b2, d_b1_b2⟩
  obtain ⟨o3, ho3⟩ : ∃ o : Option Nat, o = none := ⟨none, rfl⟩
  obtain ⟨co3, hco3⟩ : ∃ c : Option Nat, c = none := ⟨none, rfl⟩
  replace f3 : t 3 = slc o3 ([] : List api_Type).length co3 := by rw [ho3]; exact f3
  have b_o3 : OwnC H 40 3 c40 o3 co3 ([] : List api_Type) := by rw [ho3]; exact rfl
  have l_o3 : ∀ i, o3 = some i → i < n := by rw [ho3]; intro i e; cases e
  have d_b1_o3 : ∀ i, o3 = some i → i ≠ b1 := by rw [ho3]; intro i e; cases e
  have d_b2_o3 : ∀ i, o3 = some i → i ≠ b2 := by rw [ho3]; intro i e; cases e
  refine Stk.on ?_
  refine Stk.sq ?_
  refine Stk.sq ?_
  refine Stk.rg ?_
  refine Stk.run 4 (fun t H n => t 1 = .own b1 0 ∧ t 2 = .own b2 0 ∧ t 3 = slc o3 ([] : List api_Type).length co3 ∧ t 7 = .ssl (encs c40 a0.Parts) a0.Parts.length false ∧ t 8 = .sc (.int .i64 (a0.Parts.length : Int)) ∧ t 9 = .sc (.int .i64 0) ∧ H b1 = some (.cells (c40 a0) 40) ∧ b1 < n ∧ H b2 = some (.cells (c40 (api_Type.mk 0 ⟨#[]⟩ [])) 40) ∧ b2 < n ∧ OwnC H 40 3 c40 o3 co3 ([] : List api_Type) ∧ (∀ i, o3 = some i → i < n) ∧ b1 ≠ b2 ∧ (∀ i, o3 = some i → i ≠ b1) ∧ (∀ i, o3 = some i → i ≠ b2)) (fun J hJ => ?_) ?_
  · simp [-splice, f1, f2, f3, b_b1, b_b2, ld_40_2_33]
    exact hJ _ _ _ ⟨by simp [f1], by simp [f2], by simp [f3], by simp [-splice, f1, f2, f3, b_b1, b_b2, ld_40_2_33], by simp [-splice, f1, f2, f3, b_b1, b_b2, ld_40_2_33], by simp [-splice, f1, f2, f3, b_b1, b_b2, ld_40_2_33], b_b1, l_b1, b_b2, l_b2, b_o3, l_o3, d_b1_b2, d_b1_o3, d_b2_o3⟩
  clear f1 f2 f3 b_b1 l_b1 b_b2 l_b2 d_b1_b2 b_o3 l_o3 d_b1_o3 d_b2_o3
  rintro t H n ⟨f1, f2, f3, f7, f8, f9, b_b1, l_b1, b_b2, l_b2, b_o3, l_o3, d_b1_b2, d_b1_o3, d_b2_o3⟩
  refine Stk.on ?_
  obtain ⟨K1, hK1, h⟩ := jnd h
  refine Stk.jn (fun t H n => ∃ o4 : Option Nat, ∃ co4 : Option Nat, ∃ v5 : List api_Type, K1 v5 = some r ∧ t 1 = .own b1 0 ∧ t 2 = .own b2 0 ∧ t 3 = slc o4 v5.length co4 ∧ H b1 = some (.cells (c40 a0) 40) ∧ b1 < n ∧ H b2 = some (.cells (c40 (api_Type.mk 0 ⟨#[]⟩ [])) 40) ∧ b2 < n ∧ OwnC H 40 3 c40 o4 co4 v5 ∧ (∀ i, o4 = some i → i < n) ∧ b1 ≠ b2 ∧ (∀ i, o4 = some i → i ≠ b1) ∧ (∀ i, o4 = some i → i ≠ b2)) trivial (fun J1 hJ1 => ?_) ?_
  · skip
    refine Stk.bk ?_
    refine Stk.lo (fun μ t H n => ∃ o6 : Option Nat, ∃ co6 : Option Nat, ∃ v7 : List api_Type, ∃ v8 : Int, ty_own_L0 F ρ34 a0 K1 μ v7 v8 = some r ∧ t 1 = .own b1 0 ∧ t 2 = .own b2 0 ∧ t 3 = slc o6 v7.length co6 ∧ t 7 = .ssl (encs c40 a0.Parts) a0.Parts.length false ∧ t 8 = .sc (.int .i64 (a0.Parts.length : Int)) ∧ t 9 = .sc (.int .i64 v8) ∧ H b1 = some (.cells (c40 a0) 40) ∧ b1 < n ∧ H b2 = some (.cells (c40 (api_Type.mk 0 ⟨#[]⟩ [])) 40) ∧ b2 < n ∧ OwnC H 40 3 c40 o6 co6 v7 ∧ (∀ i, o6 = some i → i < n) ∧ b1 ≠ b2 ∧ (∀ i, o6 = some i → i ≠ b1) ∧ (∀ i, o6 = some i → i ≠ b2)) F ⟨o3, co3, ([] : List api_Type), 0, h, f1, f2, f3, f7, f8, f9, b_b1, l_b1, b_b2, l_b2, b_o3, l_o3, d_b1_b2, d_b1_o3, d_b2_o3⟩ ?_
    clear h f1 f2 f3 f7 f8 f9 b_b1 l_b1 b_b2 l_b2 b_o3 l_o3 d_b1_b2 d_b1_o3 d_b2_o3
    rintro J2 hJ2 μ t H n ⟨o6, co6, v7, v8, h, f1, f2, f3, f7, f8, f9, b_b1, l_b1, b_b2, l_b2, b_o6, l_o6, d_b1_b2, d_b1_o6, d_b2_o6⟩
    cases μ with
    | zero => exact absurd h (by simp [ty_own_L0])
    | succ μ =>
    rw [ty_own_L0] at h
    refine Stk.sq ?_
    refine Stk.rg ?_
    refine Stk.run 1 (fun t H n => t 1 = .own b1 0 ∧ t 2 = .own b2 0 ∧ t 3 = slc o6 v7.length co6 ∧ t 7 = .ssl (encs c40 a0.Parts) a0.Parts.length false ∧ t 8 = .sc (.int .i64 (a0.Parts.length : Int)) ∧ t 9 = .sc (.int .i64 v8) ∧ t 10 = .sc (.bool (decide (v8 < (a0.Parts.length : Int)))) ∧ H b1 = some (.cells (c40 a0) 40) ∧ b1 < n ∧ H b2 = some (.cells (c40 (api_Type.mk 0 ⟨#[]⟩ [])) 40) ∧ b2 < n ∧ OwnC H 40 3 c40 o6 co6 v7 ∧ (∀ i, o6 = some i → i < n) ∧ b1 ≠ b2 ∧ (∀ i, o6 = some i → i ≠ b1) ∧ (∀ i, o6 = some i → i ≠ b2)) (fun J hJ => ?_) ?_
    · simp [-splice, f1, f2, f3, f7, f8, f9, b_b1, b_b2]
      exact hJ _ _ _ ⟨by simp [f1], by simp [f2], by simp [f3], by simp [f7], by simp [f8], by simp [f9], by simp [-splice, f1, f2, f3, f7, f8, f9, b_b1, b_b2], b_b1, l_b1, b_b2, l_b2, b_o6, l_o6, d_b1_b2, d_b1_o6, d_b2_o6⟩
    clear f1 f2 f3 f7 f8 f9 b_b1 l_b1 b_b2 l_b2 b_o6 l_o6 d_b1_b2 d_b1_o6 d_b2_o6
    rintro t H n ⟨f1, f2, f3, f7, f8, f9, f10, b_b1, l_b1, b_b2, l_b2, b_o6, l_o6, d_b1_b2, d_b1_o6, d_b2_o6⟩
    refine Stk.on ?_
    refine Stk.sq ?_
    refine Stk.cond (decide (v8 < (a0.Parts.length : Int))) (by exact f10) (fun hb12 => ?_) (fun hb12 => ?_)
    · have h := cT hb12 h
      refine Stk.sk ?_
      refine Stk.sq ?_
      refine Stk.bk ?_
      refine Stk.sq ?_
      refine Stk.rg ?_
      obtain ⟨x13, hx13, h⟩ := bnd h
      obtain ⟨i0x13, i1x13, i2x13, _⟩ := idx_ok hx13
      have ex13_0_40 : partOf T.T 40 (encs c40 a0.Parts) (v8.toNat * 3) = some (.agg (c40 x13)) := by
          have e0 := part_elem0 (e := c40) (z := 3) (T := T.T) (ty := 40) T.t40 (by decide) (by decide) hx13 0 (by decide)
          (try simp only [Nat.mul_one, Nat.add_zero] at e0)
          exact e0.trans (ld_40_0_40 _)
      refine Stk.run 2 (fun t H n => t 1 = .own b1 0 ∧ t 2 = .own b2 0 ∧ t 3 = slc o6 v7.length co6 ∧ t 7 = .ssl (encs c40 a0.Parts) a0.Parts.length false ∧ t 8 = .sc (.int .i64 (a0.Parts.length : Int)) ∧ t 9 = .sc (.int .i64 v8) ∧ t 12 = .agg (c40 x13) ∧ H b1 = some (.cells (c40 a0) 40) ∧ b1 < n ∧ H b2 = some (.cells (c40 (api_Type.mk 0 ⟨#[]⟩ [])) 40) ∧ b2 < n ∧ OwnC H 40 3 c40 o6 co6 v7 ∧ (∀ i, o6 = some i → i < n) ∧ b1 ≠ b2 ∧ (∀ i, o6 = some i → i ≠ b1) ∧ (∀ i, o6 = some i → i ≠ b2)) (fun J hJ => ?_) ?_
      · simp [-splice, f1, f2, f3, f7, f8, f9, f10, b_b1, b_b2, i0x13, i1x13, pd40, ex13_0_40]
        exact hJ _ _ _ ⟨by simp [f1], by simp [f2], by simp [f3], by simp [f7], by simp [f8], by simp [f9], by simp [-splice, f1, f2, f3, f7, f8, f9, f10, b_b1, b_b2, i0x13, i1x13, pd40, ex13_0_40], b_b1, l_b1, b_b2, l_b2, b_o6, l_o6, d_b1_b2, d_b1_o6, d_b2_o6⟩
      clear f1 f2 f3 f7 f8 f9 f10 b_b1 l_b1 b_b2 l_b2 b_o6 l_o6 d_b1_b2 d_b1_o6 d_b2_o6
      rintro t H n ⟨f1, f2, f3, f7, f8, f9, f12, b_b1, l_b1, b_b2, l_b2, b_o6, l_o6, d_b1_b2, d_b1_o6, d_b2_o6⟩
      refine Stk.oz T.t40 (cs := c40 (api_Type.mk 0 ⟨#[]⟩ [])) (by rw [u40]; rfl) rfl (by simp [f1, f2, f3, f7, f8, f9, f12]) rfl (fun t' ht' => ?_)
      refine Stk.gen (fun t H n => ∃ b14, t 1 = .own b1 0 ∧ t 2 = .own b2 0 ∧ t 3 = slc o6 v7.length co6 ∧ t 5 = .own b14 0 ∧ t 7 = .ssl (encs c40 a0.Parts) a0.Parts.length false ∧ t 8 = .sc (.int .i64 (a0.Parts.length : Int)) ∧ t 9 = .sc (.int .i64 v8) ∧ t 12 = .agg (c40 x13) ∧ H b1 = some (.cells (c40 a0) 40) ∧ b1 < n ∧ H b2 = some (.cells (c40 (api_Type.mk 0 ⟨#[]⟩ [])) 40) ∧ b2 < n ∧ H b14 = some (.cells (c40 (api_Type.mk 0 ⟨#[]⟩ [])) 40) ∧ b14 < n ∧ OwnC H 40 3 c40 o6 co6 v7 ∧ (∀ i, o6 = some i → i < n) ∧ b1 ≠ b2 ∧ b1 ≠ b14 ∧ b2 ≠ b14 ∧ (∀ i, o6 = some i → i ≠ b1) ∧ (∀ i, o6 = some i → i ≠ b2) ∧ (∀ i, o6 = some i → i ≠ b14)) ⟨n, by simp [ht', f1], by simp [ht', f2], by simp [ht', f3], by simp [ht'], by simp [ht', f7], by simp [ht', f8], by simp [ht', f9], by simp [ht', f12], (upd_ne _ _ (Nat.ne_of_lt l_b1)).trans b_b1, Nat.lt_succ_of_lt l_b1, (upd_ne _ _ (Nat.ne_of_lt l_b2)).trans b_b2, Nat.lt_succ_of_lt l_b2, upd_same _ _ _, Nat.lt_succ_self _, b_o6.mono (fun i hi => upd_ne _ _ (Nat.ne_of_lt (l_o6 i hi))), fun i hi => Nat.lt_succ_of_lt (l_o6 i hi), d_b1_b2, Nat.ne_of_lt l_b1, Nat.ne_of_lt l_b2, d_b1_o6, d_b2_o6, fun i hi => Nat.ne_of_lt (l_o6 i hi)⟩ ?_
      clear f1 f2 f3 f7 f8 f9 f12 b_b1 l_b1 b_b2 l_b2 b_o6 l_o6 d_b1_b2 d_b1_o6 d_b2_o6 ht' t'
      rintro t H n ⟨b14, f1, f2, f3, f5, f7, f8, f9, f12, b_b1, l_b1, b_b2, l_b2, b_b14, l_b14, b_o6, l_o6, d_b1_b2, d_b1_b14, d_b2_b14, d_b1_o6, d_b2_o6, d_b14_o6⟩
      refine Stk.om (mop_store (z := 3) rfl f5 b_b14 f12 (len40 _) (by rw [len40]; decide) (ok40 _) (st_40_0_40 _ _)) (by simp [f1, f2, f3, f5, f7, f8, f9, f12]) rfl (fun t' ht' => ?_)
      refine Stk.gen (fun t H n => t 1 = .own b1 0 ∧ t 2 = .own b2 0 ∧ t 3 = slc o6 v7.length co6 ∧ t 5 = .own b14 0 ∧ t 7 = .ssl (encs c40 a0.Parts) a0.Parts.length false ∧ t 8 = .sc (.int .i64 (a0.Parts.length : Int)) ∧ t 9 = .sc (.int .i64 v8) ∧ H b1 = some (.cells (c40 a0) 40) ∧ b1 < n ∧ H b2 = some (.cells (c40 (api_Type.mk 0 ⟨#[]⟩ [])) 40) ∧ b2 < n ∧ H b14 = some (.cells (c40 x13) 40) ∧ b14 < n ∧ OwnC H 40 3 c40 o6 co6 v7 ∧ (∀ i, o6 = some i → i < n) ∧ b1 ≠ b2 ∧ b1 ≠ b14 ∧ b2 ≠ b14 ∧ (∀ i, o6 = some i → i ≠ b1) ∧ (∀ i, o6 = some i → i ≠ b2) ∧ (∀ i, o6 = some i → i ≠ b14)) ⟨by simp [ht', f1], by simp [ht', f2], by simp [ht', f3], by simp [ht', f5], by simp [ht', f7], by simp [ht', f8], by simp [ht', f9], (upd_ne _ _ d_b1_b14).trans b_b1, l_b1, (upd_ne _ _ d_b2_b14).trans b_b2, l_b2, upd_same _ _ _, l_b14, b_o6.mono (fun i hi => upd_ne _ _ (d_b14_o6 i hi)), l_o6, d_b1_b2, d_b1_b14, d_b2_b14, d_b1_o6, d_b2_o6, d_b14_o6⟩ ?_
      clear f1 f2 f3 f5 f7 f8 f9 f12 b_b1 l_b1 b_b2 l_b2 b_b14 l_b14 b_o6 l_o6 d_b1_b2 d_b1_b14 d_b2_b14 d_b1_o6 d_b2_o6 d_b14_o6 ht' t'
      rintro t H n ⟨f1, f2, f3, f5, f7, f8, f9, b_b1, l_b1, b_b2, l_b2, b_b14, l_b14, b_o6, l_o6, d_b1_b2, d_b1_b14, d_b2_b14, d_b1_o6, d_b2_o6, d_b14_o6⟩
      refine Stk.on ?_
      refine Stk.rg ?_
      refine Stk.run 2 (fun t H n => t 1 = .own b1 0 ∧ t 2 = .own b2 0 ∧ t 7 = .ssl (encs c40 a0.Parts) a0.Parts.length false ∧ t 8 = .sc (.int .i64 (a0.Parts.length : Int)) ∧ t 9 = .sc (.int .i64 v8) ∧ t 13 = slc o6 v7.length co6 ∧ t 14 = .agg (c40 x13) ∧ H b1 = some (.cells (c40 a0) 40) ∧ b1 < n ∧ H b2 = some (.cells (c40 (api_Type.mk 0 ⟨#[]⟩ [])) 40) ∧ b2 < n ∧ OwnC H 40 3 c40 o6 co6 v7 ∧ (∀ i, o6 = some i → i < n) ∧ b1 ≠ b2 ∧ (∀ i, o6 = some i → i ≠ b1) ∧ (∀ i, o6 = some i → i ≠ b2)) (fun J hJ => ?_) ?_
      · simp [-splice, f1, f2, f3, f5, f7, f8, f9, b_b1, b_b2, b_b14, ld_40_0_40]
        exact hJ _ _ _ ⟨by simp [f1], by simp [f2], by simp [f7], by simp [f8], by simp [f9], by simp [-splice, f1, f2, f3, f5, f7, f8, f9, b_b1, b_b2, b_b14, ld_40_0_40], by simp [-splice, f1, f2, f3, f5, f7, f8, f9, b_b1, b_b2, b_b14, ld_40_0_40], b_b1, l_b1, b_b2, l_b2, b_o6, l_o6, d_b1_b2, d_b1_o6, d_b2_o6⟩
      clear f1 f2 f3 f5 f7 f8 f9 b_b1 l_b1 b_b2 l_b2 b_b14 l_b14 b_o6 l_o6 d_b1_b2 d_b1_b14 d_b2_b14 d_b1_o6 d_b2_o6 d_b14_o6
      rintro t H n ⟨f1, f2, f7, f8, f9, f13, f14, b_b1, l_b1, b_b2, l_b2, b_o6, l_o6, d_b1_b2, d_b1_o6, d_b2_o6⟩
      obtain ⟨x15, hx15, h⟩ := bnd h
      refine Stk.cv (g := 34) (args := [.agg (c40 x13)]) (args' := [.agg (c40 x13)]) (v := .agg (c40 x15)) [] (hρ34 _ _ hx15) (by simp [f1, f2, f7, f8, f9, f13, f14]) rfl rfl (by simp [f1, f2, f7, f8, f9, f13, f14]) (.cons (.free (fr40 _)) (.nil)) (.inl ⟨rfl, fr40 _⟩) (fun t' ht' => ?_)
      refine Stk.gen (fun t H n => t 1 = .own b1 0 ∧ t 2 = .own b2 0 ∧ t 7 = .ssl (encs c40 a0.Parts) a0.Parts.length false ∧ t 8 = .sc (.int .i64 (a0.Parts.length : Int)) ∧ t 9 = .sc (.int .i64 v8) ∧ t 13 = slc o6 v7.length co6 ∧ t 15 = .agg (c40 x15) ∧ H b1 = some (.cells (c40 a0) 40) ∧ b1 < n ∧ H b2 = some (.cells (c40 (api_Type.mk 0 ⟨#[]⟩ [])) 40) ∧ b2 < n ∧ OwnC H 40 3 c40 o6 co6 v7 ∧ (∀ i, o6 = some i → i < n) ∧ b1 ≠ b2 ∧ (∀ i, o6 = some i → i ≠ b1) ∧ (∀ i, o6 = some i → i ≠ b2)) ⟨by simp [ht', f1], by simp [ht', f2], by simp [ht', f7], by simp [ht', f8], by simp [ht', f9], by simp [ht', f13], by simp [ht'], b_b1, l_b1, b_b2, l_b2, b_o6, l_o6, d_b1_b2, d_b1_o6, d_b2_o6⟩ ?_
      clear f1 f2 f7 f8 f9 f13 f14 b_b1 l_b1 b_b2 l_b2 b_o6 l_o6 d_b1_b2 d_b1_o6 d_b2_o6 ht' t'
      rintro t H n ⟨f1, f2, f7, f8, f9, f13, f15, b_b1, l_b1, b_b2, l_b2, b_o6, l_o6, d_b1_b2, d_b1_o6, d_b2_o6⟩
      refine Stk.om (mop_buildN (c := c40) (z := 3) T.t33 rfl T.t40 rfl (by decide) rfl (by decide) [x15] rfl (.cons f15 rfl rfl rfl (len40 _) (by simp [length_encs]) (splice_next (c := c40) [] _ x15 rfl (by simp)) (.nil))) (by simp [f1, f2, f7, f8, f9, f13, f15]) rfl (fun t' ht' => ?_)
      refine Stk.gen (fun t H n => ∃ b16, t 1 = .own b1 0 ∧ t 2 = .own b2 0 ∧ t 7 = .ssl (encs c40 a0.Parts) a0.Parts.length false ∧ t 8 = .sc (.int .i64 (a0.Parts.length : Int)) ∧ t 9 = .sc (.int .i64 v8) ∧ t 13 = slc o6 v7.length co6 ∧ t 16 = .osl b16 0 ([x15] : List api_Type).length (some ([x15] : List api_Type).length) ∧ H b1 = some (.cells (c40 a0) 40) ∧ b1 < n ∧ H b2 = some (.cells (c40 (api_Type.mk 0 ⟨#[]⟩ [])) 40) ∧ b2 < n ∧ H b16 = some (.cells (encs c40 ([x15] : List api_Type)) 40) ∧ b16 < n ∧ OwnC H 40 3 c40 o6 co6 v7 ∧ (∀ i, o6 = some i → i < n) ∧ b1 ≠ b2 ∧ b1 ≠ b16 ∧ b2 ≠ b16 ∧ (∀ i, o6 = some i → i ≠ b1) ∧ (∀ i, o6 = some i → i ≠ b2) ∧ (∀ i, o6 = some i → i ≠ b16)) ⟨n, by simp [ht', f1], by simp [ht', f2], by simp [ht', f7], by simp [ht', f8], by simp [ht', f9], by simp [ht', f13], by simp [ht'], (upd_ne _ _ (Nat.ne_of_lt l_b1)).trans b_b1, Nat.lt_succ_of_lt l_b1, (upd_ne _ _ (Nat.ne_of_lt l_b2)).trans b_b2, Nat.lt_succ_of_lt l_b2, upd_same _ _ _, Nat.lt_succ_self _, b_o6.mono (fun i hi => upd_ne _ _ (Nat.ne_of_lt (l_o6 i hi))), fun i hi => Nat.lt_succ_of_lt (l_o6 i hi), d_b1_b2, Nat.ne_of_lt l_b1, Nat.ne_of_lt l_b2, d_b1_o6, d_b2_o6, fun i hi => Nat.ne_of_lt (l_o6 i hi)⟩ ?_
      clear f1 f2 f7 f8 f9 f13 f15 b_b1 l_b1 b_b2 l_b2 b_o6 l_o6 d_b1_b2 d_b1_o6 d_b2_o6 ht' t'
      rintro t H n ⟨b16, f1, f2, f7, f8, f9, f13, f16, b_b1, l_b1, b_b2, l_b2, b_b16, l_b16, b_o6, l_o6, d_b1_b2, d_b1_b16, d_b2_b16, d_b1_o6, d_b2_o6, d_b16_o6⟩
      obtain ⟨x17, hx17, h⟩ := bnd h
      obtain ⟨r1x17, r2x17, r3x17⟩ := appM_ok hx17
      obtain ⟨o18, co18, H9, n9, e9, w9, le9, fr9, kp9⟩ := append_ownC (e := c40) (z := 3) (st := 33) T.t33 rfl T.t40 rfl (by decide) rfl (by decide) b_o6 l_o6 (y := .osl b16 0 ([x15] : List api_Type).length (some ([x15] : List api_Type).length)) ([x15] : List api_Type) (elems_row b_b16 _) (all_encs ok40 _) r1x17 r2x17
      rw [r3x17] at e9 w9
      refine Stk.om ((mop_append T.t33 rfl).trans (by rw [show ev t (.tmp 13) = t 13 from rfl, f13]; rw [show ev t (.tmp 16) = t 16 from rfl, f16];  exact e9)) (by simp [f1, f2, f7, f8, f9, f13, f16]) rfl (fun t' ht' => ?_)
      refine Stk.gen (fun t H n => t 1 = .own b1 0 ∧ t 2 = .own b2 0 ∧ t 7 = .ssl (encs c40 a0.Parts) a0.Parts.length false ∧ t 8 = .sc (.int .i64 (a0.Parts.length : Int)) ∧ t 9 = .sc (.int .i64 v8) ∧ t 17 = slc o18 x17.length co18 ∧ H b1 = some (.cells (c40 a0) 40) ∧ b1 < n ∧ H b2 = some (.cells (c40 (api_Type.mk 0 ⟨#[]⟩ [])) 40) ∧ b2 < n ∧ OwnC H 40 3 c40 o18 co18 x17 ∧ (∀ i, o18 = some i → i < n) ∧ b1 ≠ b2 ∧ (∀ i, o18 = some i → i ≠ b1) ∧ (∀ i, o18 = some i → i ≠ b2)) ⟨by simp [ht', f1], by simp [ht', f2], by simp [ht', f7], by simp [ht', f8], by simp [ht', f9], by simp [ht'], (kp9 _ l_b1 (fun e => d_b1_o6 _ e rfl)).trans b_b1, Nat.lt_of_lt_of_le l_b1 le9, (kp9 _ l_b2 (fun e => d_b2_o6 _ e rfl)).trans b_b2, Nat.lt_of_lt_of_le l_b2 le9, w9, fun i hi => (fr9 i hi).2, d_b1_b2, fun i hi e => by rcases (fr9 i hi).1 with g | g; exact d_b1_o6 i g e; have := l_b1; omega, fun i hi e => by rcases (fr9 i hi).1 with g | g; exact d_b2_o6 i g e; have := l_b2; omega⟩ ?_
      clear f1 f2 f7 f8 f9 f13 f16 b_b1 l_b1 b_b2 l_b2 b_b16 l_b16 b_o6 l_o6 d_b1_b2 d_b1_b16 d_b2_b16 d_b1_o6 d_b2_o6 d_b16_o6 ht' t'
      rintro t H n ⟨f1, f2, f7, f8, f9, f17, b_b1, l_b1, b_b2, l_b2, b_o18, l_o18, d_b1_b2, d_b1_o18, d_b2_o18⟩
      refine Stk.run 1 (fun t H n => t 1 = .own b1 0 ∧ t 2 = .own b2 0 ∧ t 3 = slc o18 x17.length co18 ∧ t 7 = .ssl (encs c40 a0.Parts) a0.Parts.length false ∧ t 8 = .sc (.int .i64 (a0.Parts.length : Int)) ∧ t 9 = .sc (.int .i64 v8) ∧ H b1 = some (.cells (c40 a0) 40) ∧ b1 < n ∧ H b2 = some (.cells (c40 (api_Type.mk 0 ⟨#[]⟩ [])) 40) ∧ b2 < n ∧ OwnC H 40 3 c40 o18 co18 x17 ∧ (∀ i, o18 = some i → i < n) ∧ b1 ≠ b2 ∧ (∀ i, o18 = some i → i ≠ b1) ∧ (∀ i, o18 = some i → i ≠ b2)) (fun J hJ => ?_) ?_
      · simp [-splice, f1, f2, f7, f8, f9, f17, b_b1, b_b2]
        exact hJ _ _ _ ⟨by simp [f1], by simp [f2], by simp [-splice, f1, f2, f7, f8, f9, f17, b_b1, b_b2], by simp [f7], by simp [f8], by simp [f9], b_b1, l_b1, b_b2, l_b2, b_o18, l_o18, d_b1_b2, d_b1_o18, d_b2_o18⟩
      clear f1 f2 f7 f8 f9 f17 b_b1 l_b1 b_b2 l_b2 b_o18 l_o18 d_b1_b2 d_b1_o18 d_b2_o18
      rintro t H n ⟨f1, f2, f3, f7, f8, f9, b_b1, l_b1, b_b2, l_b2, b_o18, l_o18, d_b1_b2, d_b1_o18, d_b2_o18⟩
      refine Stk.on ?_
      refine Stk.bn ?_
      refine Stk.rg ?_
      refine Stk.run 2 (fun t H n => t 1 = .own b1 0 ∧ t 2 = .own b2 0 ∧ t 3 = slc o18 x17.length co18 ∧ t 7 = .ssl (encs c40 a0.Parts) a0.Parts.length false ∧ t 8 = .sc (.int .i64 (a0.Parts.length : Int)) ∧ t 9 = .sc (.int .i64 (IntKind.i64.wrap (v8 + 1))) ∧ H b1 = some (.cells (c40 a0) 40) ∧ b1 < n ∧ H b2 = some (.cells (c40 (api_Type.mk 0 ⟨#[]⟩ [])) 40) ∧ b2 < n ∧ OwnC H 40 3 c40 o18 co18 x17 ∧ (∀ i, o18 = some i → i < n) ∧ b1 ≠ b2 ∧ (∀ i, o18 = some i → i ≠ b1) ∧ (∀ i, o18 = some i → i ≠ b2)) (fun J hJ => ?_) ?_
      · simp [-splice, f1, f2, f3, f7, f8, f9, b_b1, b_b2]
        exact hJ _ _ _ ⟨by simp [f1], by simp [f2], by simp [f3], by simp [f7], by simp [f8], by simp [-splice, f1, f2, f3, f7, f8, f9, b_b1, b_b2], b_b1, l_b1, b_b2, l_b2, b_o18, l_o18, d_b1_b2, d_b1_o18, d_b2_o18⟩
      clear f1 f2 f3 f7 f8 f9 b_b1 l_b1 b_b2 l_b2 b_o18 l_o18 d_b1_b2 d_b1_o18 d_b2_o18
      rintro t H n ⟨f1, f2, f3, f7, f8, f9, b_b1, l_b1, b_b2, l_b2, b_o18, l_o18, d_b1_b2, d_b1_o18, d_b2_o18⟩
      refine Stk.on ?_
      exact Stk.ln μ (Nat.lt_succ_self _) (hJ2 _ _ _ _ ⟨o18, co18, x17, (IntKind.i64.wrap (v8 + 1)), h, f1, f2, f3, f7, f8, f9, b_b1, l_b1, b_b2, l_b2, b_o18, l_o18, d_b1_b2, d_b1_o18, d_b2_o18⟩)
    · have h := cF hb12 h
      refine Stk.ex rfl ?_
      exact Stk.ln 0 (by decide) (hJ1 _ _ _ ⟨o6, co6, v7, h, f1, f2, f3, b_b1, l_b1, b_b2, l_b2, b_o6, l_o6, d_b1_b2, d_b1_o6, d_b2_o6⟩)
  clear h f1 f2 f3 f7 f8 f9 b_b1 l_b1 b_b2 l_b2 b_o3 l_o3 d_b1_b2 d_b1_o3 d_b2_o3
  rintro t H n ⟨o4, co4, v5, h, f1, f2, f3, b_b1, l_b1, b_b2, l_b2, b_o4, l_o4, d_b1_b2, d_b1_o4, d_b2_o4⟩
  subst hK1
  refine Stk.sq ?_
  refine Stk.rg ?_
  refine Stk.run 2 (fun t H n => t 1 = .own b1 0 ∧ t 2 = .own b2 0 ∧ t 19 = slc o4 v5.length co4 ∧ t 20 = .own b1 2 ∧ H b1 = some (.cells (c40 a0) 40) ∧ b1 < n ∧ H b2 = some (.cells (c40 (api_Type.mk 0 ⟨#[]⟩ [])) 40) ∧ b2 < n ∧ OwnC H 40 3 c40 o4 co4 v5 ∧ (∀ i, o4 = some i → i < n) ∧ b1 ≠ b2 ∧ (∀ i, o4 = some i → i ≠ b1) ∧ (∀ i, o4 = some i → i ≠ b2)) (fun J hJ => ?_) ?_
  · simp [-splice, f1, f2, f3, b_b1, b_b2]
    exact hJ _ _ _ ⟨by simp [f1], by simp [f2], by simp [-splice, f1, f2, f3, b_b1, b_b2], by simp [-splice, f1, f2, f3, b_b1, b_b2], b_b1, l_b1, b_b2, l_b2, b_o4, l_o4, d_b1_b2, d_b1_o4, d_b2_o4⟩
  clear f1 f2 f3 b_b1 l_b1 b_b2 l_b2 b_o4 l_o4 d_b1_b2 d_b1_o4 d_b2_o4
  rintro t H n ⟨f1, f2, f19, f20, b_b1, l_b1, b_b2, l_b2, b_o4, l_o4, d_b1_b2, d_b1_o4, d_b2_o4⟩
  refine Stk.wkf trivial o4.toList 19 (.ssl (encs c40 v5) v5.length false) (by rw [f19]; exact .inr (.inr (view_ownC fr40 b_o4 (fun i hi => by simp [hi])))) (fun t' H' ht' hH' => ?_)
  refine Stk.gen (fun t H n => t 1 = .own b1 0 ∧ t 2 = .own b2 0 ∧ t 19 = .ssl (encs c40 v5) v5.length false ∧ t 20 = .own b1 2 ∧ H b1 = some (.cells (c40 a0) 40) ∧ b1 < n ∧ H b2 = some (.cells (c40 (api_Type.mk 0 ⟨#[]⟩ [])) 40) ∧ b2 < n ∧ b1 ≠ b2) ⟨by simp [ht', f1], by simp [ht', f2], by simp [ht', f19], by simp [ht', f20], (hH' _ (by simp; exact fun e => d_b1_o4 _ e rfl)).trans b_b1, l_b1, (hH' _ (by simp; exact fun e => d_b2_o4 _ e rfl)).trans b_b2, l_b2, d_b1_b2⟩ ?_
  clear f1 f2 f19 f20 b_b1 l_b1 b_b2 l_b2 b_o4 l_o4 d_b1_b2 d_b1_o4 d_b2_o4 hH' ht' t' H'
  rintro t H n ⟨f1, f2, f19, f20, b_b1, l_b1, b_b2, l_b2, d_b1_b2⟩
  refine Stk.om (mop_store (z := 1) rfl f20 b_b1 f19 rfl (by rw [len40]; decide) rfl (st_40_2_33 _ _)) (by simp [f1, f2, f19, f20]) rfl (fun t' ht' => ?_)
  refine Stk.gen (fun t H n => t 1 = .own b1 0 ∧ t 2 = .own b2 0 ∧ H b1 = some (.cells (c40 ({ a0 with Parts := v5 })) 40) ∧ b1 < n ∧ H b2 = some (.cells (c40 (api_Type.mk 0 ⟨#[]⟩ [])) 40) ∧ b2 < n ∧ b1 ≠ b2) ⟨by simp [ht', f1], by simp [ht', f2], upd_same _ _ _, l_b1, (upd_ne _ _ (Ne.symm d_b1_b2)).trans b_b2, l_b2, d_b1_b2⟩ ?_
  clear f1 f2 f19 f20 b_b1 l_b1 b_b2 l_b2 d_b1_b2 ht' t'
  rintro t H n ⟨f1, f2, b_b1, l_b1, b_b2, l_b2, d_b1_b2⟩
  refine Stk.on ?_
  refine Stk.sq ?_
  refine Stk.rg ?_
  refine Stk.run 1 (fun t H n => t 2 = .own b2 0 ∧ t 21 = .agg (c40 ({ a0 with Parts := v5 })) ∧ H b2 = some (.cells (c40 (api_Type.mk 0 ⟨#[]⟩ [])) 40) ∧ b2 < n) (fun J hJ => ?_) ?_
  · simp [-splice, f1, f2, b_b1, b_b2, ld_40_0_40]
    exact hJ _ _ _ ⟨by simp [f2], by simp [-splice, f1, f2, b_b1, b_b2, ld_40_0_40], b_b2, l_b2⟩
  clear f1 f2 b_b1 l_b1 b_b2 l_b2 d_b1_b2
  rintro t H n ⟨f2, f21, b_b2, l_b2⟩
  refine Stk.om (mop_store (z := 3) rfl f2 b_b2 f21 (len40 _) (by rw [len40]; decide) (ok40 _) (st_40_0_40 _ _)) (by simp [f2, f21]) rfl (fun t' ht' => ?_)
  refine Stk.gen (fun t H n => t 2 = .own b2 0 ∧ H b2 = some (.cells (c40 ({ a0 with Parts := v5 })) 40) ∧ b2 < n) ⟨by simp [ht', f2], upd_same _ _ _, l_b2⟩ ?_
  clear f2 f21 b_b2 l_b2 ht' t'
  rintro t H n ⟨f2, b_b2, l_b2⟩
  refine Stk.on ?_
  refine Stk.rt ?_
  have hq := Option.some.inj h; subst hq
  exact (hr _ _ _ (.agg (c40 ({ a0 with Parts := v5 }))) ([]) (by simp [f2, b_b2, ld_40_0_40]) (.inr (.inr (.free (fr40 _))))).1
theorem okG_ty_own : ∀ F : Nat, (∀ (a0 : api_Type) (r : api_Type), ty_own F a0 = some r → RunF Try.prog T.T 34 [.agg (c40 a0)] (.agg (c40 r)))
  | 0 => (fun a0 r h => by rw [ty_own] at h; cases h)
  | F + 1 => (fun a0 r h => okB_ty_own F (ty_own F) (okG_ty_own F) a0 r (by rw [ty_own] at h; exact h))
theorem ok_ty_own (F : Nat) (a0 : api_Type) (r : api_Type) (h : ty_own F a0 = some r) : RunF Try.prog T.T 34 [.agg (c40 a0)] (.agg (c40 r)) := (okG_ty_own F) a0 r h

theorem ok_ty_Datas (F : Nat) (a0 : api_Prog) (r : (List api_Data)) (h : ty_Datas F a0 = some r) : RunF Try.prog T.T 17 [.agg (c51 a0)] (.ssl (encs c32 r) r.length false) := by
  rw [ty_Datas] at h
  refine RunF.z Try.func17 rfl rfl rfl rfl rfl (fun C hr => ?_)
  refine Stk.gen (fun t H n => t 0 = .agg (c51 a0)) (by simp) ?_
  rintro t H n f0
  refine Stk.sq ?_
  refine Stk.rg ?_
  refine Stk.om (mop_box T.t51 (cs := c51 a0) (by show partOk (t 0) = true; rw [f0]; rfl) (by show cellsOf (t 0) = _; rw [f0]; rfl)) (by simp [f0]) rfl (fun t' ht' => ?_)
  refine Stk.gen (fun t H n => ∃ b1, t 1 = .own b1 0 ∧ H b1 = some (.cells (c51 a0) 51) ∧ b1 < n) ⟨n, by simp [ht'], upd_same _ _ _, Nat.lt_succ_self _⟩ ?_
  clear f0 ht' t'
  rintro t H n ⟨b1, f1, b_b1, l_b1⟩
  refine Stk.run 1 (fun t H n => t 1 = .own b1 0 ∧ H b1 = some (.cells (c51 a0) 51) ∧ b1 < n) (fun J hJ => ?_) ?_
  · simp [-splice, f1, b_b1]
    exact hJ _ _ _ ⟨by simp [f1], b_b1, l_b1⟩
  clear f1 b_b1 l_b1
  rintro t H n ⟨f1, b_b1, l_b1⟩
  refine Stk.on ?_
  refine Stk.sq ?_
  refine Stk.rg ?_
  obtain ⟨x2, hx2, h⟩ := bnd h
  refine Stk.cs (okQ_ty_always F  _ hx2 H n) (by simp [f1]) rfl rfl (by simp [f1]) (fun v' H' n' hz t' ht' => ?_)
  obtain ⟨o3, co3, hv9, w9, le9, kp9, fr9⟩ := hz; subst hv9
  refine Stk.gen (fun t H n => t 1 = .own b1 0 ∧ t 9 = slc o3 x2.length co3 ∧ H b1 = some (.cells (c51 a0) 51) ∧ b1 < n ∧ OwnC H 32 4 c32 o3 co3 x2 ∧ (∀ i, o3 = some i → i < n) ∧ (∀ i, o3 = some i → i ≠ b1)) ⟨by simp [ht', f1], by simp [ht'], (kp9 _ l_b1).trans b_b1, Nat.lt_of_lt_of_le l_b1 le9, w9, fun i hi => (fr9 i hi).2, fun i hi e => by have g := (fr9 i hi).1; have := l_b1; omega⟩ ?_
  clear f1 b_b1 l_b1 ht' t'
  rintro t H n ⟨f1, f9, b_b1, l_b1, b_o3, l_o3, d_b1_o3⟩
  refine Stk.run 1 (fun t H n => t 1 = .own b1 0 ∧ t 3 = slc o3 x2.length co3 ∧ H b1 = some (.cells (c51 a0) 51) ∧ b1 < n ∧ OwnC H 32 4 c32 o3 co3 x2 ∧ (∀ i, o3 = some i → i < n) ∧ (∀ i, o3 = some i → i ≠ b1)) (fun J hJ => ?_) ?_
  · simp [-splice, f1, f9, b_b1]
    exact hJ _ _ _ ⟨by simp [f1], by simp [-splice, f1, f9, b_b1], b_b1, l_b1, b_o3, l_o3, d_b1_o3⟩
  clear f1 f9 b_b1 l_b1 b_o3 l_o3 d_b1_o3
  rintro t H n ⟨f1, f3, b_b1, l_b1, b_o3, l_o3, d_b1_o3⟩
  refine Stk.on ?_
  refine Stk.sq ?_
  refine Stk.sq ?_
  refine Stk.rg ?_
  refine Stk.run 4 (fun t H n => t 3 = slc o3 x2.length co3 ∧ t 11 = .ssl (encs c32 a0.Datas) a0.Datas.length false ∧ t 12 = .sc (.int .i64 (a0.Datas.length : Int)) ∧ t 13 = .sc (.int .i64 0) ∧ OwnC H 32 4 c32 o3 co3 x2 ∧ (∀ i, o3 = some i → i < n)) (fun J hJ => ?_) ?_
  · simp [-splice, f1, f3, b_b1, ld_51_0_22]
    exact hJ _ _ _ ⟨by simp [f3], by simp [-splice, f1, f3, b_b1, ld_51_0_22], by simp [-splice, f1, f3, b_b1, ld_51_0_22], by simp [-splice, f1, f3, b_b1, ld_51_0_22], b_o3, l_o3⟩
  clear f1 f3 b_b1 l_b1 b_o3 l_o3 d_b1_o3
  rintro t H n ⟨f3, f11, f12, f13, b_o3, l_o3⟩
  refine Stk.on ?_
  refine Stk.bk ?_
  refine Stk.lo (fun μ t H n => ∃ o4 : Option Nat, ∃ co4 : Option Nat, ∃ v5 : List api_Data, ∃ v6 : Int, ty_Datas_L0 F a0 μ v5 v6 = some r ∧ t 3 = slc o4 v5.length co4 ∧ t 11 = .ssl (encs c32 a0.Datas) a0.Datas.length false ∧ t 12 = .sc (.int .i64 (a0.Datas.length : Int)) ∧ t 13 = .sc (.int .i64 v6) ∧ OwnC H 32 4 c32 o4 co4 v5 ∧ (∀ i, o4 = some i → i < n)) F ⟨o3, co3, x2, 0, h, f3, f11, f12, f13, b_o3, l_o3⟩ ?_
  clear h f3 f11 f12 f13 b_o3 l_o3
  rintro J1 hJ1 μ t H n ⟨o4, co4, v5, v6, h, f3, f11, f12, f13, b_o4, l_o4⟩
  cases μ with
  | zero => exact absurd h (by simp [ty_Datas_L0])
  | succ μ =>
  rw [ty_Datas_L0] at h
  refine Stk.sq ?_
  refine Stk.rg ?_
  refine Stk.run 1 (fun t H n => t 3 = slc o4 v5.length co4 ∧ t 11 = .ssl (encs c32 a0.Datas) a0.Datas.length false ∧ t 12 = .sc (.int .i64 (a0.Datas.length : Int)) ∧ t 13 = .sc (.int .i64 v6) ∧ t 14 = .sc (.bool (decide (v6 < (a0.Datas.length : Int)))) ∧ OwnC H 32 4 c32 o4 co4 v5 ∧ (∀ i, o4 = some i → i < n)) (fun J hJ => ?_) ?_
  · simp [-splice, f3, f11, f12, f13]
    exact hJ _ _ _ ⟨by simp [f3], by simp [f11], by simp [f12], by simp [f13], by simp [-splice, f3, f11, f12, f13], b_o4, l_o4⟩
  clear f3 f11 f12 f13 b_o4 l_o4
  rintro t H n ⟨f3, f11, f12, f13, f14, b_o4, l_o4⟩
  refine Stk.on ?_
  refine Stk.sq ?_
  refine Stk.cond (decide (v6 < (a0.Datas.length : Int))) (by exact f14) (fun hb10 => ?_) (fun hb10 => ?_)
  · have h := cT hb10 h
    refine Stk.sk ?_
    refine Stk.sq ?_
    refine Stk.bk ?_
    refine Stk.sq ?_
    refine Stk.rg ?_
    obtain ⟨x11, hx11, h⟩ := bnd h
    obtain ⟨i0x11, i1x11, i2x11, _⟩ := idx_ok hx11
    have ex11_0_32 : partOf T.T 32 (encs c32 a0.Datas) (v6.toNat * 4) = some (.agg (c32 x11)) := by
        have e0 := part_elem0 (e := c32) (z := 4) (T := T.T) (ty := 32) T.t32 (by decide) (by decide) hx11 0 (by decide)
        (try simp only [Nat.mul_one, Nat.add_zero] at e0)
        exact e0.trans (ld_32_0_32 _)
    refine Stk.run 2 (fun t H n => t 3 = slc o4 v5.length co4 ∧ t 11 = .ssl (encs c32 a0.Datas) a0.Datas.length false ∧ t 12 = .sc (.int .i64 (a0.Datas.length : Int)) ∧ t 13 = .sc (.int .i64 v6) ∧ t 16 = .agg (c32 x11) ∧ OwnC H 32 4 c32 o4 co4 v5 ∧ (∀ i, o4 = some i → i < n)) (fun J hJ => ?_) ?_
    · simp [-splice, f3, f11, f12, f13, f14, i0x11, i1x11, pd32, ex11_0_32]
      exact hJ _ _ _ ⟨by simp [f3], by simp [f11], by simp [f12], by simp [f13], by simp [-splice, f3, f11, f12, f13, f14, i0x11, i1x11, pd32, ex11_0_32], b_o4, l_o4⟩
    clear f3 f11 f12 f13 f14 b_o4 l_o4
    rintro t H n ⟨f3, f11, f12, f13, f16, b_o4, l_o4⟩
    refine Stk.oz T.t32 (cs := c32 (api_Data.mk (api_Pos.mk 0 0) ⟨#[]⟩ [])) (by rfl) rfl (by simp [f3, f11, f12, f13, f16]) rfl (fun t' ht' => ?_)
    refine Stk.gen (fun t H n => ∃ b12, t 3 = slc o4 v5.length co4 ∧ t 5 = .own b12 0 ∧ t 11 = .ssl (encs c32 a0.Datas) a0.Datas.length false ∧ t 12 = .sc (.int .i64 (a0.Datas.length : Int)) ∧ t 13 = .sc (.int .i64 v6) ∧ t 16 = .agg (c32 x11) ∧ H b12 = some (.cells (c32 (api_Data.mk (api_Pos.mk 0 0) ⟨#[]⟩ [])) 32) ∧ b12 < n ∧ OwnC H 32 4 c32 o4 co4 v5 ∧ (∀ i, o4 = some i → i < n) ∧ (∀ i, o4 = some i → i ≠ b12)) ⟨n, by simp [ht', f3], by simp [ht'], by simp [ht', f11], by simp [ht', f12], by simp [ht', f13], by simp [ht', f16], upd_same _ _ _, Nat.lt_succ_self _, b_o4.mono (fun i hi => upd_ne _ _ (Nat.ne_of_lt (l_o4 i hi))), fun i hi => Nat.lt_succ_of_lt (l_o4 i hi), fun i hi => Nat.ne_of_lt (l_o4 i hi)⟩ ?_
    clear f3 f11 f12 f13 f16 b_o4 l_o4 ht' t'
    rintro t H n ⟨b12, f3, f5, f11, f12, f13, f16, b_b12, l_b12, b_o4, l_o4, d_b12_o4⟩
    refine Stk.om (mop_store (z := 4) rfl f5 b_b12 f16 (len32 _) (by rw [len32]; decide) (ok32 _) (st_32_0_32 _ _)) (by simp [f3, f5, f11, f12, f13, f16]) rfl (fun t' ht' => ?_)
    refine Stk.gen (fun t H n => t 3 = slc o4 v5.length co4 ∧ t 5 = .own b12 0 ∧ t 11 = .ssl (encs c32 a0.Datas) a0.Datas.length false ∧ t 12 = .sc (.int .i64 (a0.Datas.length : Int)) ∧ t 13 = .sc (.int .i64 v6) ∧ H b12 = some (.cells (c32 x11) 32) ∧ b12 < n ∧ OwnC H 32 4 c32 o4 co4 v5 ∧ (∀ i, o4 = some i → i < n) ∧ (∀ i, o4 = some i → i ≠ b12)) ⟨by simp [ht', f3], by simp [ht', f5], by simp [ht', f11], by simp [ht', f12], by simp [ht', f13], upd_same _ _ _, l_b12, b_o4.mono (fun i hi => upd_ne _ _ (d_b12_o4 i hi)), l_o4, d_b12_o4⟩ ?_
    clear f3 f5 f11 f12 f13 f16 b_b12 l_b12 b_o4 l_o4 d_b12_o4 ht' t'
    rintro t H n ⟨f3, f5, f11, f12, f13, b_b12, l_b12, b_o4, l_o4, d_b12_o4⟩
    refine Stk.on ?_
    refine Stk.sq ?_
    refine Stk.rg ?_
    refine Stk.run 1 (fun t H n => t 3 = slc o4 v5.length co4 ∧ t 5 = .own b12 0 ∧ t 6 = .sc (.slice none 0 0) ∧ t 11 = .ssl (encs c32 a0.Datas) a0.Datas.length false ∧ t 12 = .sc (.int .i64 (a0.Datas.length : Int)) ∧ t 13 = .sc (.int .i64 v6) ∧ H b12 = some (.cells (c32 x11) 32) ∧ b12 < n ∧ OwnC H 32 4 c32 o4 co4 v5 ∧ (∀ i, o4 = some i → i < n) ∧ (∀ i, o4 = some i → i ≠ b12)) (fun J hJ => ?_) ?_
    · simp [-splice, f3, f5, f11, f12, f13, b_b12]
      exact hJ _ _ _ ⟨by simp [f3], by simp [f5], by simp [-splice, f3, f5, f11, f12, f13, b_b12], by simp [f11], by simp [f12], by simp [f13], b_b12, l_b12, b_o4, l_o4, d_b12_o4⟩
    clear f3 f5 f11 f12 f13 b_b12 l_b12 b_o4 l_o4 d_b12_o4
    rintro t H n ⟨f3, f5, f6, f11, f12, f13, b_b12, l_b12, b_o4, l_o4, d_b12_o4⟩
    obtain ⟨o13, ho13⟩ : ∃ o : Option Nat, o = none := ⟨none, rfl⟩
    obtain ⟨co13, hco13⟩ : ∃ c : Option Nat, c = none := ⟨none, rfl⟩
    replace f6 : t 6 = slc o13 ([] : List api_Con).length co13 := by rw [ho13]; exact f6
    have b_o13 : OwnC H 35 2 c35 o13 co13 ([] : List api_Con) := by rw [ho13]; exact rfl
    have l_o13 : ∀ i, o13 = some i → i < n := by rw [ho13]; intro i e; cases e
    have d_b12_o13 : ∀ i, o13 = some i → i ≠ b12 := by rw [ho13]; intro i e; cases e
    have d_o4_o13 : ∀ i, o13 = some i → o4 ≠ some i := by rw [ho13]; intro i e; cases e
    refine Stk.on ?_
    refine Stk.sq ?_
    refine Stk.sq ?_
    refine Stk.rg ?_
    refine Stk.run 4 (fun t H n => t 3 = slc o4 v5.length co4 ∧ t 5 = .own b12 0 ∧ t 6 = slc o13 ([] : List api_Con).length co13 ∧ t 11 = .ssl (encs c32 a0.Datas) a0.Datas.length false ∧ t 12 = .sc (.int .i64 (a0.Datas.length : Int)) ∧ t 13 = .sc (.int .i64 v6) ∧ t 18 = .ssl (encs c35 x11.Cons) x11.Cons.length false ∧ t 19 = .sc (.int .i64 (x11.Cons.length : Int)) ∧ t 20 = .sc (.int .i64 0) ∧ H b12 = some (.cells (c32 x11) 32) ∧ b12 < n ∧ OwnC H 32 4 c32 o4 co4 v5 ∧ (∀ i, o4 = some i → i < n) ∧ OwnC H 35 2 c35 o13 co13 ([] : List api_Con) ∧ (∀ i, o13 = some i → i < n) ∧ (∀ i, o4 = some i → i ≠ b12) ∧ (∀ i, o13 = some i → i ≠ b12) ∧ (∀ i, o13 = some i → o4 ≠ some i)) (fun J hJ => ?_) ?_
    · simp [-splice, f3, f5, f6, f11, f12, f13, b_b12, ld_32_3_30]
      exact hJ _ _ _ ⟨by simp [f3], by simp [f5], by simp [f6], by simp [f11], by simp [f12], by simp [f13], by simp [-splice, f3, f5, f6, f11, f12, f13, b_b12, ld_32_3_30], by simp [-splice, f3, f5, f6, f11, f12, f13, b_b12, ld_32_3_30], by simp [-splice, f3, f5, f6, f11, f12, f13, b_b12, ld_32_3_30], b_b12, l_b12, b_o4, l_o4, b_o13, l_o13, d_b12_o4, d_b12_o13, d_o4_o13⟩
    clear f3 f5 f6 f11 f12 f13 b_b12 l_b12 b_o4 l_o4 d_b12_o4 b_o13 l_o13 d_b12_o13 d_o4_o13
    rintro t H n ⟨f3, f5, f6, f11, f12, f13, f18, f19, f20, b_b12, l_b12, b_o4, l_o4, b_o13, l_o13, d_b12_o4, d_b12_o13, d_o4_o13⟩
    refine Stk.on ?_
    obtain ⟨K2, hK2, h⟩ := jnd h
    refine Stk.jn (fun t H n => ∃ o14 : Option Nat, ∃ co14 : Option Nat, ∃ v15 : List api_Con, K2 v15 = some r ∧ t 3 = slc o4 v5.length co4 ∧ t 5 = .own b12 0 ∧ t 6 = slc o14 v15.length co14 ∧ t 11 = .ssl (encs c32 a0.Datas) a0.Datas.length false ∧ t 12 = .sc (.int .i64 (a0.Datas.length : Int)) ∧ t 13 = .sc (.int .i64 v6) ∧ H b12 = some (.cells (c32 x11) 32) ∧ b12 < n ∧ OwnC H 32 4 c32 o4 co4 v5 ∧ (∀ i, o4 = some i → i < n) ∧ OwnC H 35 2 c35 o14 co14 v15 ∧ (∀ i, o14 = some i → i < n) ∧ (∀ i, o4 = some i → i ≠ b12) ∧ (∀ i, o14 = some i → i ≠ b12) ∧ (∀ i, o14 = some i → o4 ≠ some i)) trivial (fun J2 hJ2 => ?_) ?_
    · skip
      refine Stk.bk ?_
      refine Stk.lo (fun μ t H n => ∃ o16 : Option Nat, ∃ co16 : Option Nat, ∃ v17 : List api_Con, ∃ v18 : Int, ty_Datas_L1 F x11 K2 μ v17 v18 = some r ∧ t 3 = slc o4 v5.length co4 ∧ t 5 = .own b12 0 ∧ t 6 = slc o16 v17.length co16 ∧ t 11 = .ssl (encs c32 a0.Datas) a0.Datas.length false ∧ t 12 = .sc (.int .i64 (a0.Datas.length : Int)) ∧ t 13 = .sc (.int .i64 v6) ∧ t 18 = .ssl (encs c35 x11.Cons) x11.Cons.length false ∧ t 19 = .sc (.int .i64 (x11.Cons.length : Int)) ∧ t 20 = .sc (.int .i64 v18) ∧ H b12 = some (.cells (c32 x11) 32) ∧ b12 < n ∧ OwnC H 32 4 c32 o4 co4 v5 ∧ (∀ i, o4 = some i → i < n) ∧ OwnC H 35 2 c35 o16 co16 v17 ∧ (∀ i, o16 = some i → i < n) ∧ (∀ i, o4 = some i → i ≠ b12) ∧ (∀ i, o16 = some i → i ≠ b12) ∧ (∀ i, o16 = some i → o4 ≠ some i)) F ⟨o13, co13, ([] : List api_Con), 0, h, f3, f5, f6, f11, f12, f13, f18, f19, f20, b_b12, l_b12, b_o4, l_o4, b_o13, l_o13, d_b12_o4, d_b12_o13, d_o4_o13⟩ ?_
      clear h f3 f5 f6 f11 f12 f13 f18 f19 f20 b_b12 l_b12 b_o4 l_o4 b_o13 l_o13 d_b12_o4 d_b12_o13 d_o4_o13
      rintro J3 hJ3 μ t H n ⟨o16, co16, v17, v18, h, f3, f5, f6, f11, f12, f13, f18, f19, f20, b_b12, l_b12, b_o4, l_o4, b_o16, l_o16, d_b12_o4, d_b12_o16, d_o4_o16⟩
      cases μ with
      | zero => exact absurd h (by simp [ty_Datas_L1])
      | succ μ =>
      rw [ty_Datas_L1] at h
      refine Stk.sq ?_
      refine Stk.rg ?_
      refine Stk.run 1 (fun t H n => t 3 = slc o4 v5.length co4 ∧ t 5 = .own b12 0 ∧ t 6 = slc o16 v17.length co16 ∧ t 11 = .ssl (encs c32 a0.Datas) a0.Datas.length false ∧ t 12 = .sc (.int .i64 (a0.Datas.length : Int)) ∧ t 13 = .sc (.int .i64 v6) ∧ t 18 = .ssl (encs c35 x11.Cons) x11.Cons.length false ∧ t 19 = .sc (.int .i64 (x11.Cons.length : Int)) ∧ t 20 = .sc (.int .i64 v18) ∧ t 21 = .sc (.bool (decide (v18 < (x11.Cons.length : Int)))) ∧ H b12 = some (.cells (c32 x11) 32) ∧ b12 < n ∧ OwnC H 32 4 c32 o4 co4 v5 ∧ (∀ i, o4 = some i → i < n) ∧ OwnC H 35 2 c35 o16 co16 v17 ∧ (∀ i, o16 = some i → i < n) ∧ (∀ i, o4 = some i → i ≠ b12) ∧ (∀ i, o16 = some i → i ≠ b12) ∧ (∀ i, o16 = some i → o4 ≠ some i)) (fun J hJ => ?_) ?_
      · simp [-splice, f3, f5, f6, f11, f12, f13, f18, f19, f20, b_b12]
        exact hJ _ _ _ ⟨by simp [f3], by simp [f5], by simp [f6], by simp [f11], by simp [f12], by simp [f13], by simp [f18], by simp [f19], by simp [f20], by simp [-splice, f3, f5, f6, f11, f12, f13, f18, f19, f20, b_b12], b_b12, l_b12, b_o4, l_o4, b_o16, l_o16, d_b12_o4, d_b12_o16, d_o4_o16⟩
      clear f3 f5 f6 f11 f12 f13 f18 f19 f20 b_b12 l_b12 b_o4 l_o4 b_o16 l_o16 d_b12_o4 d_b12_o16 d_o4_o16
      rintro t H n ⟨f3, f5, f6, f11, f12, f13, f18, f19, f20, f21, b_b12, l_b12, b_o4, l_o4, b_o16, l_o16, d_b12_o4, d_b12_o16, d_o4_o16⟩
      refine Stk.on ?_
      refine Stk.sq ?_
      refine Stk.cond (decide (v18 < (x11.Cons.length : Int))) (by exact f21) (fun hb22 => ?_) (fun hb22 => ?_)
      · have h := cT hb22 h
        refine Stk.sk ?_
        refine Stk.sq ?_
        refine Stk.bk ?_
        refine Stk.sq ?_
        refine Stk.rg ?_
        obtain ⟨x23, hx23, h⟩ := bnd h
        obtain ⟨i0x23, i1x23, i2x23, _⟩ := idx_ok hx23
        have ex23_0_35 : partOf T.T 35 (encs c35 x11.Cons) (v18.toNat * 2) = some (.agg (c35 x23)) := by
            have e0 := part_elem0 (e := c35) (z := 2) (T := T.T) (ty := 35) T.t35 (by decide) (by decide) hx23 0 (by decide)
            (try simp only [Nat.mul_one, Nat.add_zero] at e0)
            exact e0.trans (ld_35_0_35 _)
        refine Stk.run 2 (fun t H n => t 3 = slc o4 v5.length co4 ∧ t 5 = .own b12 0 ∧ t 6 = slc o16 v17.length co16 ∧ t 11 = .ssl (encs c32 a0.Datas) a0.Datas.length false ∧ t 12 = .sc (.int .i64 (a0.Datas.length : Int)) ∧ t 13 = .sc (.int .i64 v6) ∧ t 18 = .ssl (encs c35 x11.Cons) x11.Cons.length false ∧ t 19 = .sc (.int .i64 (x11.Cons.length : Int)) ∧ t 20 = .sc (.int .i64 v18) ∧ t 23 = .agg (c35 x23) ∧ H b12 = some (.cells (c32 x11) 32) ∧ b12 < n ∧ OwnC H 32 4 c32 o4 co4 v5 ∧ (∀ i, o4 = some i → i < n) ∧ OwnC H 35 2 c35 o16 co16 v17 ∧ (∀ i, o16 = some i → i < n) ∧ (∀ i, o4 = some i → i ≠ b12) ∧ (∀ i, o16 = some i → i ≠ b12) ∧ (∀ i, o16 = some i → o4 ≠ some i)) (fun J hJ => ?_) ?_
        · simp [-splice, f3, f5, f6, f11, f12, f13, f18, f19, f20, f21, b_b12, i0x23, i1x23, pd35, ex23_0_35]
          exact hJ _ _ _ ⟨by simp [f3], by simp [f5], by simp [f6], by simp [f11], by simp [f12], by simp [f13], by simp [f18], by simp [f19], by simp [f20], by simp [-splice, f3, f5, f6, f11, f12, f13, f18, f19, f20, f21, b_b12, i0x23, i1x23, pd35, ex23_0_35], b_b12, l_b12, b_o4, l_o4, b_o16, l_o16, d_b12_o4, d_b12_o16, d_o4_o16⟩
        clear f3 f5 f6 f11 f12 f13 f18 f19 f20 f21 b_b12 l_b12 b_o4 l_o4 b_o16 l_o16 d_b12_o4 d_b12_o16 d_o4_o16
        rintro t H n ⟨f3, f5, f6, f11, f12, f13, f18, f19, f20, f23, b_b12, l_b12, b_o4, l_o4, b_o16, l_o16, d_b12_o4, d_b12_o16, d_o4_o16⟩
        refine Stk.oz T.t35 (cs := c35 (api_Con.mk ⟨#[]⟩ [])) (by rfl) rfl (by simp [f3, f5, f6, f11, f12, f13, f18, f19, f20, f23]) rfl (fun t' ht' => ?_)
        refine Stk.gen (fun t H n => ∃ b24, t 3 = slc o4 v5.length co4 ∧ t 5 = .own b12 0 ∧ t 6 = slc o16 v17.length co16 ∧ t 8 = .own b24 0 ∧ t 11 = .ssl (encs c32 a0.Datas) a0.Datas.length false ∧ t 12 = .sc (.int .i64 (a0.Datas.length : Int)) ∧ t 13 = .sc (.int .i64 v6) ∧ t 18 = .ssl (encs c35 x11.Cons) x11.Cons.length false ∧ t 19 = .sc (.int .i64 (x11.Cons.length : Int)) ∧ t 20 = .sc (.int .i64 v18) ∧ t 23 = .agg (c35 x23) ∧ H b12 = some (.cells (c32 x11) 32) ∧ b12 < n ∧ H b24 = some (.cells (c35 (api_Con.mk ⟨#[]⟩ [])) 35) ∧ b24 < n ∧ OwnC H 32 4 c32 o4 co4 v5 ∧ (∀ i, o4 = some i → i < n) ∧ OwnC H 35 2 c35 o16 co16 v17 ∧ (∀ i, o16 = some i → i < n) ∧ b12 ≠ b24 ∧ (∀ i, o4 = some i → i ≠ b12) ∧ (∀ i, o4 = some i → i ≠ b24) ∧ (∀ i, o16 = some i → i ≠ b12) ∧ (∀ i, o16 = some i → i ≠ b24) ∧ (∀ i, o16 = some i → o4 ≠ some i)) ⟨n, by simp [ht', f3], by simp [ht', f5], by simp [ht', f6], by simp [ht'], by simp [ht', f11], by simp [ht', f12], by simp [ht', f13], by simp [ht', f18], by simp [ht', f19], by simp [ht', f20], by simp [ht', f23], (upd_ne _ _ (Nat.ne_of_lt l_b12)).trans b_b12, Nat.lt_succ_of_lt l_b12, upd_same _ _ _, Nat.lt_succ_self _, b_o4.mono (fun i hi => upd_ne _ _ (Nat.ne_of_lt (l_o4 i hi))), fun i hi => Nat.lt_succ_of_lt (l_o4 i hi), b_o16.mono (fun i hi => upd_ne _ _ (Nat.ne_of_lt (l_o16 i hi))), fun i hi => Nat.lt_succ_of_lt (l_o16 i hi), Nat.ne_of_lt l_b12, d_b12_o4, fun i hi => Nat.ne_of_lt (l_o4 i hi), d_b12_o16, fun i hi => Nat.ne_of_lt (l_o16 i hi), d_o4_o16⟩ ?_
        clear f3 f5 f6 f11 f12 f13 f18 f19 f20 f23 b_b12 l_b12 b_o4 l_o4 b_o16 l_o16 d_b12_o4 d_b12_o16 d_o4_o16 ht' t'
        rintro t H n ⟨b24, f3, f5, f6, f8, f11, f12, f13, f18, f19, f20, f23, b_b12, l_b12, b_b24, l_b24, b_o4, l_o4, b_o16, l_o16, d_b12_b24, d_b12_o4, d_b24_o4, d_b12_o16, d_b24_o16, d_o4_o16⟩
        refine Stk.om (mop_store (z := 2) rfl f8 b_b24 f23 (len35 _) (by rw [len35]; decide) (ok35 _) (st_35_0_35 _ _)) (by simp [f3, f5, f6, f8, f11, f12, f13, f18, f19, f20, f23]) rfl (fun t' ht' => ?_)
        refine Stk.gen (fun t H n => t 3 = slc o4 v5.length co4 ∧ t 5 = .own b12 0 ∧ t 6 = slc o16 v17.length co16 ∧ t 8 = .own b24 0 ∧ t 11 = .ssl (encs c32 a0.Datas) a0.Datas.length false ∧ t 12 = .sc (.int .i64 (a0.Datas.length : Int)) ∧ t 13 = .sc (.int .i64 v6) ∧ t 18 = .ssl (encs c35 x11.Cons) x11.Cons.length false ∧ t 19 = .sc (.int .i64 (x11.Cons.length : Int)) ∧ t 20 = .sc (.int .i64 v18) ∧ H b12 = some (.cells (c32 x11) 32) ∧ b12 < n ∧ H b24 = some (.cells (c35 x23) 35) ∧ b24 < n ∧ OwnC H 32 4 c32 o4 co4 v5 ∧ (∀ i, o4 = some i → i < n) ∧ OwnC H 35 2 c35 o16 co16 v17 ∧ (∀ i, o16 = some i → i < n) ∧ b12 ≠ b24 ∧ (∀ i, o4 = some i → i ≠ b12) ∧ (∀ i, o4 = some i → i ≠ b24) ∧ (∀ i, o16 = some i → i ≠ b12) ∧ (∀ i, o16 = some i → i ≠ b24) ∧ (∀ i, o16 = some i → o4 ≠ some i)) ⟨by simp [ht', f3], by simp [ht', f5], by simp [ht', f6], by simp [ht', f8], by simp [ht', f11], by simp [ht', f12], by simp [ht', f13], by simp [ht', f18], by simp [ht', f19], by simp [ht', f20], (upd_ne _ _ d_b12_b24).trans b_b12, l_b12, upd_same _ _ _, l_b24, b_o4.mono (fun i hi => upd_ne _ _ (d_b24_o4 i hi)), l_o4, b_o16.mono (fun i hi => upd_ne _ _ (d_b24_o16 i hi)), l_o16, d_b12_b24, d_b12_o4, d_b24_o4, d_b12_o16, d_b24_o16, d_o4_o16⟩ ?_
        clear f3 f5 f6 f8 f11 f12 f13 f18 f19 f20 f23 b_b12 l_b12 b_b24 l_b24 b_o4 l_o4 b_o16 l_o16 d_b12_b24 d_b12_o4 d_b24_o4 d_b12_o16 d_b24_o16 d_o4_o16 ht' t'
        rintro t H n ⟨f3, f5, f6, f8, f11, f12, f13, f18, f19, f20, b_b12, l_b12, b_b24, l_b24, b_o4, l_o4, b_o16, l_o16, d_b12_b24, d_b12_o4, d_b24_o4, d_b12_o16, d_b24_o16, d_o4_o16⟩
        refine Stk.on ?_
        obtain ⟨n0, hn0⟩ : ∃ m, m = n := ⟨n, rfl⟩
        have ln0 : n0 ≤ n := Nat.le_of_eq hn0
        refine Stk.rgD [.rd [], .rd [], .rd [b24], .rd [], .rd [b24], .rd [], .rd [], .rd [], .rd [], .mem [] n0, .mem o16.toList n0, .rd []] none (by kernel_rfl) (by rfl) rfl (by simp [below, hn0, l_b12, hn0, l_b24]) rfl ?_
        refine Stk.runD 5 (fun t H n => t 3 = slc o4 v5.length co4 ∧ t 5 = .own b12 0 ∧ t 11 = .ssl (encs c32 a0.Datas) a0.Datas.length false ∧ t 12 = .sc (.int .i64 (a0.Datas.length : Int)) ∧ t 13 = .sc (.int .i64 v6) ∧ t 18 = .ssl (encs c35 x11.Cons) x11.Cons.length false ∧ t 19 = .sc (.int .i64 (x11.Cons.length : Int)) ∧ t 20 = .sc (.int .i64 v18) ∧ t 24 = slc o16 v17.length co16 ∧ t 26 = .sc (.string x23.Name) ∧ t 28 = .ssl (encs c40 x23.Fields) x23.Fields.length false ∧ H b12 = some (.cells (c32 x11) 32) ∧ b12 < n ∧ OwnC H 32 4 c32 o4 co4 v5 ∧ (∀ i, o4 = some i → i < n) ∧ OwnC H 35 2 c35 o16 co16 v17 ∧ (∀ i, o16 = some i → i < n) ∧ (∀ i, o4 = some i → i ≠ b12) ∧ (∀ i, o16 = some i → i ≠ b12) ∧ (∀ i, o16 = some i → o4 ≠ some i) ∧ n0 ≤ n) (fun J hJ => ?_) ?_
        · simp [-splice, f3, f5, f6, f8, f11, f12, f13, f18, f19, f20, b_b12, b_b24, ld_35_0_9, ld_35_1_33]
          exact hJ _ _ _ ⟨by simp [f3], by simp [f5], by simp [f11], by simp [f12], by simp [f13], by simp [f18], by simp [f19], by simp [f20], by simp [-splice, f3, f5, f6, f8, f11, f12, f13, f18, f19, f20, b_b12, b_b24, ld_35_0_9, ld_35_1_33], by simp [-splice, f3, f5, f6, f8, f11, f12, f13, f18, f19, f20, b_b12, b_b24, ld_35_0_9, ld_35_1_33], by simp [-splice, f3, f5, f6, f8, f11, f12, f13, f18, f19, f20, b_b12, b_b24, ld_35_0_9, ld_35_1_33], b_b12, l_b12, b_o4, l_o4, b_o16, l_o16, d_b12_o4, d_b12_o16, d_o4_o16, ln0⟩
        clear f3 f5 f6 f8 f11 f12 f13 f18 f19 f20 b_b12 l_b12 b_b24 l_b24 b_o4 l_o4 b_o16 l_o16 d_b12_b24 d_b12_o4 d_b24_o4 d_b12_o16 d_b24_o16 d_o4_o16 ln0
        rintro t H n ⟨f3, f5, f11, f12, f13, f18, f19, f20, f24, f26, f28, b_b12, l_b12, b_o4, l_o4, b_o16, l_o16, d_b12_o4, d_b12_o16, d_o4_o16, ln0⟩
        refine Stk.ovD rfl (by simp [f3, f5, f11, f12, f13, f18, f19, f20, f24, f26, f28]) rfl (vop_build T.t40 rfl rfl (cs := c40 (api_Type.mk 0 ⟨#[]⟩ [])) (cs' := c40 (api_Type.mk 0 ⟨#[]⟩ x23.Fields)) rfl (.cons f28 rfl rfl rfl rfl (rfl) (by rw [len40]; decide) (st_40_2_33 _ _) (.nil))) (by simp [f3, f5, f11, f12, f13, f18, f19, f20, f24, f26, f28]) rfl (fun t' ht' => ?_)
        refine Stk.gen (fun t H n => t 3 = slc o4 v5.length co4 ∧ t 5 = .own b12 0 ∧ t 11 = .ssl (encs c32 a0.Datas) a0.Datas.length false ∧ t 12 = .sc (.int .i64 (a0.Datas.length : Int)) ∧ t 13 = .sc (.int .i64 v6) ∧ t 18 = .ssl (encs c35 x11.Cons) x11.Cons.length false ∧ t 19 = .sc (.int .i64 (x11.Cons.length : Int)) ∧ t 20 = .sc (.int .i64 v18) ∧ t 24 = slc o16 v17.length co16 ∧ t 26 = .sc (.string x23.Name) ∧ t 29 = .agg (c40 (api_Type.mk 0 ⟨#[]⟩ x23.Fields)) ∧ H b12 = some (.cells (c32 x11) 32) ∧ b12 < n ∧ OwnC H 32 4 c32 o4 co4 v5 ∧ (∀ i, o4 = some i → i < n) ∧ OwnC H 35 2 c35 o16 co16 v17 ∧ (∀ i, o16 = some i → i < n) ∧ (∀ i, o4 = some i → i ≠ b12) ∧ (∀ i, o16 = some i → i ≠ b12) ∧ (∀ i, o16 = some i → o4 ≠ some i) ∧ n0 ≤ n) ⟨by simp [ht', f3], by simp [ht', f5], by simp [ht', f11], by simp [ht', f12], by simp [ht', f13], by simp [ht', f18], by simp [ht', f19], by simp [ht', f20], by simp [ht', f24], by simp [ht', f26], by simp [ht'], b_b12, l_b12, b_o4, l_o4, b_o16, l_o16, d_b12_o4, d_b12_o16, d_o4_o16, ln0⟩ ?_
        clear f3 f5 f11 f12 f13 f18 f19 f20 f24 f26 f28 b_b12 l_b12 b_o4 l_o4 b_o16 l_o16 d_b12_o4 d_b12_o16 d_o4_o16 ln0 ht' t'
        rintro t H n ⟨f3, f5, f11, f12, f13, f18, f19, f20, f24, f26, f29, b_b12, l_b12, b_o4, l_o4, b_o16, l_o16, d_b12_o4, d_b12_o16, d_o4_o16, ln0⟩
        obtain ⟨x25, hx25, h⟩ := bnd h
        refine Stk.cvD (g := 34) (args := [.agg (c40 (api_Type.mk 0 ⟨#[]⟩ x23.Fields))]) (args' := [.agg (c40 (api_Type.mk 0 ⟨#[]⟩ x23.Fields))]) (v := .agg (c40 x25)) [] (ok_ty_own F _ _ hx25) rfl (by simp) rfl (by simp [f3, f5, f11, f12, f13, f18, f19, f20, f24, f26, f29]) rfl rfl (by simp [f3, f5, f11, f12, f13, f18, f19, f20, f24, f26, f29]) (.cons (.free (fr40 _)) (.nil)) (.inl ⟨rfl, fr40 _⟩) (fun t' ht' => ?_)
        refine Stk.gen (fun t H n => t 3 = slc o4 v5.length co4 ∧ t 5 = .own b12 0 ∧ t 11 = .ssl (encs c32 a0.Datas) a0.Datas.length false ∧ t 12 = .sc (.int .i64 (a0.Datas.length : Int)) ∧ t 13 = .sc (.int .i64 v6) ∧ t 18 = .ssl (encs c35 x11.Cons) x11.Cons.length false ∧ t 19 = .sc (.int .i64 (x11.Cons.length : Int)) ∧ t 20 = .sc (.int .i64 v18) ∧ t 24 = slc o16 v17.length co16 ∧ t 26 = .sc (.string x23.Name) ∧ t 30 = .agg (c40 x25) ∧ H b12 = some (.cells (c32 x11) 32) ∧ b12 < n ∧ OwnC H 32 4 c32 o4 co4 v5 ∧ (∀ i, o4 = some i → i < n) ∧ OwnC H 35 2 c35 o16 co16 v17 ∧ (∀ i, o16 = some i → i < n) ∧ (∀ i, o4 = some i → i ≠ b12) ∧ (∀ i, o16 = some i → i ≠ b12) ∧ (∀ i, o16 = some i → o4 ≠ some i) ∧ n0 ≤ n) ⟨by simp [ht', f3], by simp [ht', f5], by simp [ht', f11], by simp [ht', f12], by simp [ht', f13], by simp [ht', f18], by simp [ht', f19], by simp [ht', f20], by simp [ht', f24], by simp [ht', f26], by simp [ht'], b_b12, l_b12, b_o4, l_o4, b_o16, l_o16, d_b12_o4, d_b12_o16, d_o4_o16, ln0⟩ ?_
        clear f3 f5 f11 f12 f13 f18 f19 f20 f24 f26 f29 b_b12 l_b12 b_o4 l_o4 b_o16 l_o16 d_b12_o4 d_b12_o16 d_o4_o16 ln0 ht' t'
        rintro t H n ⟨f3, f5, f11, f12, f13, f18, f19, f20, f24, f26, f30, b_b12, l_b12, b_o4, l_o4, b_o16, l_o16, d_b12_o4, d_b12_o16, d_o4_o16, ln0⟩
        refine Stk.runD 1 (fun t H n => t 3 = slc o4 v5.length co4 ∧ t 5 = .own b12 0 ∧ t 11 = .ssl (encs c32 a0.Datas) a0.Datas.length false ∧ t 12 = .sc (.int .i64 (a0.Datas.length : Int)) ∧ t 13 = .sc (.int .i64 v6) ∧ t 18 = .ssl (encs c35 x11.Cons) x11.Cons.length false ∧ t 19 = .sc (.int .i64 (x11.Cons.length : Int)) ∧ t 20 = .sc (.int .i64 v18) ∧ t 24 = slc o16 v17.length co16 ∧ t 26 = .sc (.string x23.Name) ∧ t 31 = .ssl (encs c40 x25.Parts) x25.Parts.length false ∧ H b12 = some (.cells (c32 x11) 32) ∧ b12 < n ∧ OwnC H 32 4 c32 o4 co4 v5 ∧ (∀ i, o4 = some i → i < n) ∧ OwnC H 35 2 c35 o16 co16 v17 ∧ (∀ i, o16 = some i → i < n) ∧ (∀ i, o4 = some i → i ≠ b12) ∧ (∀ i, o16 = some i → i ≠ b12) ∧ (∀ i, o16 = some i → o4 ≠ some i) ∧ n0 ≤ n) (fun J hJ => ?_) ?_
        · simp [-splice, f3, f5, f11, f12, f13, f18, f19, f20, f24, f26, f30, b_b12, ld_40_2_33]
          exact hJ _ _ _ ⟨by simp [f3], by simp [f5], by simp [f11], by simp [f12], by simp [f13], by simp [f18], by simp [f19], by simp [f20], by simp [f24], by simp [f26], by simp [-splice, f3, f5, f11, f12, f13, f18, f19, f20, f24, f26, f30, b_b12, ld_40_2_33], b_b12, l_b12, b_o4, l_o4, b_o16, l_o16, d_b12_o4, d_b12_o16, d_o4_o16, ln0⟩
        clear f3 f5 f11 f12 f13 f18 f19 f20 f24 f26 f30 b_b12 l_b12 b_o4 l_o4 b_o16 l_o16 d_b12_o4 d_b12_o16 d_o4_o16 ln0
        rintro t H n ⟨f3, f5, f11, f12, f13, f18, f19, f20, f24, f26, f31, b_b12, l_b12, b_o4, l_o4, b_o16, l_o16, d_b12_o4, d_b12_o16, d_o4_o16, ln0⟩
        refine Stk.ovD rfl (by simp [f3, f5, f11, f12, f13, f18, f19, f20, f24, f26, f31]) rfl (vop_build T.t35 rfl rfl (cs := c35 (api_Con.mk ⟨#[]⟩ [])) (cs' := c35 (api_Con.mk x23.Name x25.Parts)) rfl (.cons f26 rfl rfl rfl rfl (rfl) (by rw [len35]; decide) (st_35_0_9 _ _) (.cons f31 rfl rfl rfl rfl (rfl) (by rw [len35]; decide) (st_35_1_33 _ _) (.nil)))) (by simp [f3, f5, f11, f12, f13, f18, f19, f20, f24, f26, f31]) rfl (fun t' ht' => ?_)
        refine Stk.gen (fun t H n => t 3 = slc o4 v5.length co4 ∧ t 5 = .own b12 0 ∧ t 11 = .ssl (encs c32 a0.Datas) a0.Datas.length false ∧ t 12 = .sc (.int .i64 (a0.Datas.length : Int)) ∧ t 13 = .sc (.int .i64 v6) ∧ t 18 = .ssl (encs c35 x11.Cons) x11.Cons.length false ∧ t 19 = .sc (.int .i64 (x11.Cons.length : Int)) ∧ t 20 = .sc (.int .i64 v18) ∧ t 24 = slc o16 v17.length co16 ∧ t 32 = .agg (c35 (api_Con.mk x23.Name x25.Parts)) ∧ H b12 = some (.cells (c32 x11) 32) ∧ b12 < n ∧ OwnC H 32 4 c32 o4 co4 v5 ∧ (∀ i, o4 = some i → i < n) ∧ OwnC H 35 2 c35 o16 co16 v17 ∧ (∀ i, o16 = some i → i < n) ∧ (∀ i, o4 = some i → i ≠ b12) ∧ (∀ i, o16 = some i → i ≠ b12) ∧ (∀ i, o16 = some i → o4 ≠ some i) ∧ n0 ≤ n) ⟨by simp [ht', f3], by simp [ht', f5], by simp [ht', f11], by simp [ht', f12], by simp [ht', f13], by simp [ht', f18], by simp [ht', f19], by simp [ht', f20], by simp [ht', f24], by simp [ht'], b_b12, l_b12, b_o4, l_o4, b_o16, l_o16, d_b12_o4, d_b12_o16, d_o4_o16, ln0⟩ ?_
        clear f3 f5 f11 f12 f13 f18 f19 f20 f24 f26 f31 b_b12 l_b12 b_o4 l_o4 b_o16 l_o16 d_b12_o4 d_b12_o16 d_o4_o16 ln0 ht' t'
        rintro t H n ⟨f3, f5, f11, f12, f13, f18, f19, f20, f24, f32, b_b12, l_b12, b_o4, l_o4, b_o16, l_o16, d_b12_o4, d_b12_o16, d_o4_o16, ln0⟩
        refine Stk.omD (S := []) (b := n0) rfl (fun j hj _ => upd_ne _ _ (by omega)) rfl (mop_buildN (c := c35) (z := 2) T.t30 rfl T.t35 rfl (by decide) rfl (by decide) [(api_Con.mk x23.Name x25.Parts)] rfl (.cons f32 rfl rfl rfl (len35 _) (by simp [length_encs]) (splice_next (c := c35) [] _ (api_Con.mk x23.Name x25.Parts) rfl (by simp)) (.nil))) (by simp [f3, f5, f11, f12, f13, f18, f19, f20, f24, f32]) rfl (fun t' ht' => ?_)
        refine Stk.gen (fun t H n => ∃ b26, t 3 = slc o4 v5.length co4 ∧ t 5 = .own b12 0 ∧ t 11 = .ssl (encs c32 a0.Datas) a0.Datas.length false ∧ t 12 = .sc (.int .i64 (a0.Datas.length : Int)) ∧ t 13 = .sc (.int .i64 v6) ∧ t 18 = .ssl (encs c35 x11.Cons) x11.Cons.length false ∧ t 19 = .sc (.int .i64 (x11.Cons.length : Int)) ∧ t 20 = .sc (.int .i64 v18) ∧ t 24 = slc o16 v17.length co16 ∧ t 33 = .osl b26 0 ([(api_Con.mk x23.Name x25.Parts)] : List api_Con).length (some ([(api_Con.mk x23.Name x25.Parts)] : List api_Con).length) ∧ H b12 = some (.cells (c32 x11) 32) ∧ b12 < n ∧ H b26 = some (.cells (encs c35 ([(api_Con.mk x23.Name x25.Parts)] : List api_Con)) 35) ∧ b26 < n ∧ OwnC H 32 4 c32 o4 co4 v5 ∧ (∀ i, o4 = some i → i < n) ∧ OwnC H 35 2 c35 o16 co16 v17 ∧ (∀ i, o16 = some i → i < n) ∧ b12 ≠ b26 ∧ (∀ i, o4 = some i → i ≠ b12) ∧ (∀ i, o4 = some i → i ≠ b26) ∧ (∀ i, o16 = some i → i ≠ b12) ∧ (∀ i, o16 = some i → i ≠ b26) ∧ (∀ i, o16 = some i → o4 ≠ some i) ∧ n0 ≤ n) ⟨n, by simp [ht', f3], by simp [ht', f5], by simp [ht', f11], by simp [ht', f12], by simp [ht', f13], by simp [ht', f18], by simp [ht', f19], by simp [ht', f20], by simp [ht', f24], by simp [ht'], (upd_ne _ _ (Nat.ne_of_lt l_b12)).trans b_b12, Nat.lt_succ_of_lt l_b12, upd_same _ _ _, Nat.lt_succ_self _, b_o4.mono (fun i hi => upd_ne _ _ (Nat.ne_of_lt (l_o4 i hi))), fun i hi => Nat.lt_succ_of_lt (l_o4 i hi), b_o16.mono (fun i hi => upd_ne _ _ (Nat.ne_of_lt (l_o16 i hi))), fun i hi => Nat.lt_succ_of_lt (l_o16 i hi), Nat.ne_of_lt l_b12, d_b12_o4, fun i hi => Nat.ne_of_lt (l_o4 i hi), d_b12_o16, fun i hi => Nat.ne_of_lt (l_o16 i hi), d_o4_o16, Nat.le_succ_of_le ln0⟩ ?_
        clear f3 f5 f11 f12 f13 f18 f19 f20 f24 f32 b_b12 l_b12 b_o4 l_o4 b_o16 l_o16 d_b12_o4 d_b12_o16 d_o4_o16 ln0 ht' t'
        rintro t H n ⟨b26, f3, f5, f11, f12, f13, f18, f19, f20, f24, f33, b_b12, l_b12, b_b26, l_b26, b_o4, l_o4, b_o16, l_o16, d_b12_b26, d_b12_o4, d_b26_o4, d_b12_o16, d_b26_o16, d_o4_o16, ln0⟩
        obtain ⟨x27, hx27, h⟩ := bnd h
        obtain ⟨r1x27, r2x27, r3x27⟩ := appM_ok hx27
        obtain ⟨o28, co28, H9, n9, e9, w9, le9, fr9, kp9⟩ := append_ownC (e := c35) (z := 2) (st := 30) T.t30 rfl T.t35 rfl (by decide) rfl (by decide) b_o16 l_o16 (y := .osl b26 0 ([(api_Con.mk x23.Name x25.Parts)] : List api_Con).length (some ([(api_Con.mk x23.Name x25.Parts)] : List api_Con).length)) ([(api_Con.mk x23.Name x25.Parts)] : List api_Con) (elems_row b_b26 _) (all_encs ok35 _) r1x27 r2x27
        rw [r3x27] at e9 w9
        refine Stk.omD (S := o16.toList) (b := n0) rfl (fun j hj hm => kp9 j (by omega) (fun e => hm (by simp [e]))) rfl ((mop_append T.t30 rfl).trans (by rw [show ev t (.tmp 24) = t 24 from rfl, f24]; rw [show ev t (.tmp 33) = t 33 from rfl, f33];  exact e9)) (by simp [f3, f5, f11, f12, f13, f18, f19, f20, f24, f33]) rfl (fun t' ht' => ?_)
        refine Stk.gen (fun t H n => t 3 = slc o4 v5.length co4 ∧ t 5 = .own b12 0 ∧ t 11 = .ssl (encs c32 a0.Datas) a0.Datas.length false ∧ t 12 = .sc (.int .i64 (a0.Datas.length : Int)) ∧ t 13 = .sc (.int .i64 v6) ∧ t 18 = .ssl (encs c35 x11.Cons) x11.Cons.length false ∧ t 19 = .sc (.int .i64 (x11.Cons.length : Int)) ∧ t 20 = .sc (.int .i64 v18) ∧ t 34 = slc o28 x27.length co28 ∧ H b12 = some (.cells (c32 x11) 32) ∧ b12 < n ∧ OwnC H 32 4 c32 o4 co4 v5 ∧ (∀ i, o4 = some i → i < n) ∧ OwnC H 35 2 c35 o28 co28 x27 ∧ (∀ i, o28 = some i → i < n) ∧ (∀ i, o4 = some i → i ≠ b12) ∧ (∀ i, o28 = some i → i ≠ b12) ∧ (∀ i, o28 = some i → o4 ≠ some i) ∧ n0 ≤ n) ⟨by simp [ht', f3], by simp [ht', f5], by simp [ht', f11], by simp [ht', f12], by simp [ht', f13], by simp [ht', f18], by simp [ht', f19], by simp [ht', f20], by simp [ht'], (kp9 _ l_b12 (fun e => d_b12_o16 _ e rfl)).trans b_b12, Nat.lt_of_lt_of_le l_b12 le9, b_o4.mono (fun i hi => kp9 i (l_o4 i hi) (fun e => d_o4_o16 i e hi)), fun i hi => Nat.lt_of_lt_of_le (l_o4 i hi) le9, w9, fun i hi => (fr9 i hi).2, d_b12_o4, fun i hi e => by rcases (fr9 i hi).1 with g | g; exact d_b12_o16 i g e; have := l_b12; omega, fun i hi e => by rcases (fr9 i hi).1 with g | g; exact d_o4_o16 i g e; have := l_o4 i e; omega, Nat.le_trans ln0 le9⟩ ?_
        clear f3 f5 f11 f12 f13 f18 f19 f20 f24 f33 b_b12 l_b12 b_b26 l_b26 b_o4 l_o4 b_o16 l_o16 d_b12_b26 d_b12_o4 d_b26_o4 d_b12_o16 d_b26_o16 d_o4_o16 ln0 ht' t'
        rintro t H n ⟨f3, f5, f11, f12, f13, f18, f19, f20, f34, b_b12, l_b12, b_o4, l_o4, b_o28, l_o28, d_b12_o4, d_b12_o28, d_o4_o28, ln0⟩
        refine Stk.runD 1 (fun t H n => t 3 = slc o4 v5.length co4 ∧ t 5 = .own b12 0 ∧ t 6 = slc o28 x27.length co28 ∧ t 11 = .ssl (encs c32 a0.Datas) a0.Datas.length false ∧ t 12 = .sc (.int .i64 (a0.Datas.length : Int)) ∧ t 13 = .sc (.int .i64 v6) ∧ t 18 = .ssl (encs c35 x11.Cons) x11.Cons.length false ∧ t 19 = .sc (.int .i64 (x11.Cons.length : Int)) ∧ t 20 = .sc (.int .i64 v18) ∧ H b12 = some (.cells (c32 x11) 32) ∧ b12 < n ∧ OwnC H 32 4 c32 o4 co4 v5 ∧ (∀ i, o4 = some i → i < n) ∧ OwnC H 35 2 c35 o28 co28 x27 ∧ (∀ i, o28 = some i → i < n) ∧ (∀ i, o4 = some i → i ≠ b12) ∧ (∀ i, o28 = some i → i ≠ b12) ∧ (∀ i, o28 = some i → o4 ≠ some i) ∧ n0 ≤ n) (fun J hJ => ?_) ?_
        · simp [-splice, f3, f5, f11, f12, f13, f18, f19, f20, f34, b_b12]
          exact hJ _ _ _ ⟨by simp [f3], by simp [f5], by simp [-splice, f3, f5, f11, f12, f13, f18, f19, f20, f34, b_b12], by simp [f11], by simp [f12], by simp [f13], by simp [f18], by simp [f19], by simp [f20], b_b12, l_b12, b_o4, l_o4, b_o28, l_o28, d_b12_o4, d_b12_o28, d_o4_o28, ln0⟩
        clear f3 f5 f11 f12 f13 f18 f19 f20 f34 b_b12 l_b12 b_o4 l_o4 b_o28 l_o28 d_b12_o4 d_b12_o28 d_o4_o28 ln0
        rintro t H n ⟨f3, f5, f6, f11, f12, f13, f18, f19, f20, b_b12, l_b12, b_o4, l_o4, b_o28, l_o28, d_b12_o4, d_b12_o28, d_o4_o28, ln0⟩
        refine Stk.onD ?_
        refine Stk.bn ?_
        refine Stk.rg ?_
        refine Stk.run 2 (fun t H n => t 3 = slc o4 v5.length co4 ∧ t 5 = .own b12 0 ∧ t 6 = slc o28 x27.length co28 ∧ t 11 = .ssl (encs c32 a0.Datas) a0.Datas.length false ∧ t 12 = .sc (.int .i64 (a0.Datas.length : Int)) ∧ t 13 = .sc (.int .i64 v6) ∧ t 18 = .ssl (encs c35 x11.Cons) x11.Cons.length false ∧ t 19 = .sc (.int .i64 (x11.Cons.length : Int)) ∧ t 20 = .sc (.int .i64 (IntKind.i64.wrap (v18 + 1))) ∧ H b12 = some (.cells (c32 x11) 32) ∧ b12 < n ∧ OwnC H 32 4 c32 o4 co4 v5 ∧ (∀ i, o4 = some i → i < n) ∧ OwnC H 35 2 c35 o28 co28 x27 ∧ (∀ i, o28 = some i → i < n) ∧ (∀ i, o4 = some i → i ≠ b12) ∧ (∀ i, o28 = some i → i ≠ b12) ∧ (∀ i, o28 = some i → o4 ≠ some i)) (fun J hJ => ?_) ?_
        · simp [-splice, f3, f5, f6, f11, f12, f13, f18, f19, f20, b_b12]
          exact hJ _ _ _ ⟨by simp [f3], by simp [f5], by simp [f6], by simp [f11], by simp [f12], by simp [f13], by simp [f18], by simp [f19], by simp [-splice, f3, f5, f6, f11, f12, f13, f18, f19, f20, b_b12], b_b12, l_b12, b_o4, l_o4, b_o28, l_o28, d_b12_o4, d_b12_o28, d_o4_o28⟩
        clear f3 f5 f6 f11 f12 f13 f18 f19 f20 b_b12 l_b12 b_o4 l_o4 b_o28 l_o28 d_b12_o4 d_b12_o28 d_o4_o28 ln0
        rintro t H n ⟨f3, f5, f6, f11, f12, f13, f18, f19, f20, b_b12, l_b12, b_o4, l_o4, b_o28, l_o28, d_b12_o4, d_b12_o28, d_o4_o28⟩
        refine Stk.on ?_
        exact Stk.ln μ (Nat.lt_succ_self _) (hJ3 _ _ _ _ ⟨o28, co28, x27, (IntKind.i64.wrap (v18 + 1)), h, f3, f5, f6, f11, f12, f13, f18, f19, f20, b_b12, l_b12, b_o4, l_o4, b_o28, l_o28, d_b12_o4, d_b12_o28, d_o4_o28⟩)
      · have h := cF hb22 h
        refine Stk.ex rfl ?_
        exact Stk.ln 0 (by decide) (hJ2 _ _ _ ⟨o16, co16, v17, h, f3, f5, f6, f11, f12, f13, b_b12, l_b12, b_o4, l_o4, b_o16, l_o16, d_b12_o4, d_b12_o16, d_o4_o16⟩)
    clear h f3 f5 f6 f11 f12 f13 f18 f19 f20 b_b12 l_b12 b_o4 l_o4 b_o13 l_o13 d_b12_o4 d_b12_o13 d_o4_o13
    rintro t H n ⟨o14, co14, v15, h, f3, f5, f6, f11, f12, f13, b_b12, l_b12, b_o4, l_o4, b_o14, l_o14, d_b12_o4, d_b12_o14, d_o4_o14⟩
    subst hK2
    refine Stk.sq ?_
    refine Stk.rg ?_
    refine Stk.run 2 (fun t H n => t 3 = slc o4 v5.length co4 ∧ t 5 = .own b12 0 ∧ t 11 = .ssl (encs c32 a0.Datas) a0.Datas.length false ∧ t 12 = .sc (.int .i64 (a0.Datas.length : Int)) ∧ t 13 = .sc (.int .i64 v6) ∧ t 36 = slc o14 v15.length co14 ∧ t 37 = .own b12 3 ∧ H b12 = some (.cells (c32 x11) 32) ∧ b12 < n ∧ OwnC H 32 4 c32 o4 co4 v5 ∧ (∀ i, o4 = some i → i < n) ∧ OwnC H 35 2 c35 o14 co14 v15 ∧ (∀ i, o14 = some i → i < n) ∧ (∀ i, o4 = some i → i ≠ b12) ∧ (∀ i, o14 = some i → i ≠ b12) ∧ (∀ i, o14 = some i → o4 ≠ some i)) (fun J hJ => ?_) ?_
    · simp [-splice, f3, f5, f6, f11, f12, f13, b_b12]
      exact hJ _ _ _ ⟨by simp [f3], by simp [f5], by simp [f11], by simp [f12], by simp [f13], by simp [-splice, f3, f5, f6, f11, f12, f13, b_b12], by simp [-splice, f3, f5, f6, f11, f12, f13, b_b12], b_b12, l_b12, b_o4, l_o4, b_o14, l_o14, d_b12_o4, d_b12_o14, d_o4_o14⟩
    clear f3 f5 f6 f11 f12 f13 b_b12 l_b12 b_o4 l_o4 b_o14 l_o14 d_b12_o4 d_b12_o14 d_o4_o14
    rintro t H n ⟨f3, f5, f11, f12, f13, f36, f37, b_b12, l_b12, b_o4, l_o4, b_o14, l_o14, d_b12_o4, d_b12_o14, d_o4_o14⟩
    refine Stk.wkf trivial o14.toList 36 (.ssl (encs c35 v15) v15.length false) (by rw [f36]; exact .inr (.inr (view_ownC fr35 b_o14 (fun i hi => by simp [hi])))) (fun t' H' ht' hH' => ?_)
    refine Stk.gen (fun t H n => t 3 = slc o4 v5.length co4 ∧ t 5 = .own b12 0 ∧ t 11 = .ssl (encs c32 a0.Datas) a0.Datas.length false ∧ t 12 = .sc (.int .i64 (a0.Datas.length : Int)) ∧ t 13 = .sc (.int .i64 v6) ∧ t 36 = .ssl (encs c35 v15) v15.length false ∧ t 37 = .own b12 3 ∧ H b12 = some (.cells (c32 x11) 32) ∧ b12 < n ∧ OwnC H 32 4 c32 o4 co4 v5 ∧ (∀ i, o4 = some i → i < n) ∧ (∀ i, o4 = some i → i ≠ b12)) ⟨by simp [ht', f3], by simp [ht', f5], by simp [ht', f11], by simp [ht', f12], by simp [ht', f13], by simp [ht', f36], by simp [ht', f37], (hH' _ (by simp; exact fun e => d_b12_o14 _ e rfl)).trans b_b12, l_b12, b_o4.mono (fun i hi => hH' i (by simp; exact (fun e => d_o4_o14 i e hi))), l_o4, d_b12_o4⟩ ?_
    clear f3 f5 f11 f12 f13 f36 f37 b_b12 l_b12 b_o4 l_o4 b_o14 l_o14 d_b12_o4 d_b12_o14 d_o4_o14 hH' ht' t' H'
    rintro t H n ⟨f3, f5, f11, f12, f13, f36, f37, b_b12, l_b12, b_o4, l_o4, d_b12_o4⟩
    refine Stk.om (mop_store (z := 1) rfl f37 b_b12 f36 rfl (by rw [len32]; decide) rfl (st_32_3_30 _ _)) (by simp [f3, f5, f11, f12, f13, f36, f37]) rfl (fun t' ht' => ?_)
    refine Stk.gen (fun t H n => t 3 = slc o4 v5.length co4 ∧ t 5 = .own b12 0 ∧ t 11 = .ssl (encs c32 a0.Datas) a0.Datas.length false ∧ t 12 = .sc (.int .i64 (a0.Datas.length : Int)) ∧ t 13 = .sc (.int .i64 v6) ∧ H b12 = some (.cells (c32 ({ x11 with Cons := v15 })) 32) ∧ b12 < n ∧ OwnC H 32 4 c32 o4 co4 v5 ∧ (∀ i, o4 = some i → i < n) ∧ (∀ i, o4 = some i → i ≠ b12)) ⟨by simp [ht', f3], by simp [ht', f5], by simp [ht', f11], by simp [ht', f12], by simp [ht', f13], upd_same _ _ _, l_b12, b_o4.mono (fun i hi => upd_ne _ _ (d_b12_o4 i hi)), l_o4, d_b12_o4⟩ ?_
    clear f3 f5 f11 f12 f13 f36 f37 b_b12 l_b12 b_o4 l_o4 d_b12_o4 ht' t'
    rintro t H n ⟨f3, f5, f11, f12, f13, b_b12, l_b12, b_o4, l_o4, d_b12_o4⟩
    refine Stk.on ?_
    refine Stk.rg ?_
    refine Stk.run 2 (fun t H n => t 11 = .ssl (encs c32 a0.Datas) a0.Datas.length false ∧ t 12 = .sc (.int .i64 (a0.Datas.length : Int)) ∧ t 13 = .sc (.int .i64 v6) ∧ t 38 = slc o4 v5.length co4 ∧ t 39 = .agg (c32 ({ x11 with Cons := v15 })) ∧ OwnC H 32 4 c32 o4 co4 v5 ∧ (∀ i, o4 = some i → i < n)) (fun J hJ => ?_) ?_
    · simp [-splice, f3, f5, f11, f12, f13, b_b12, ld_32_0_32]
      exact hJ _ _ _ ⟨by simp [f11], by simp [f12], by simp [f13], by simp [-splice, f3, f5, f11, f12, f13, b_b12, ld_32_0_32], by simp [-splice, f3, f5, f11, f12, f13, b_b12, ld_32_0_32], b_o4, l_o4⟩
    clear f3 f5 f11 f12 f13 b_b12 l_b12 b_o4 l_o4 d_b12_o4
    rintro t H n ⟨f11, f12, f13, f38, f39, b_o4, l_o4⟩
    refine Stk.om (mop_buildN (c := c32) (z := 4) T.t22 rfl T.t32 rfl (by decide) rfl (by decide) [{ x11 with Cons := v15 }] rfl (.cons f39 rfl rfl rfl (len32 _) (by simp [length_encs]) (splice_next (c := c32) [] _ ({ x11 with Cons := v15 }) rfl (by simp)) (.nil))) (by simp [f11, f12, f13, f38, f39]) rfl (fun t' ht' => ?_)
    refine Stk.gen (fun t H n => ∃ b29, t 11 = .ssl (encs c32 a0.Datas) a0.Datas.length false ∧ t 12 = .sc (.int .i64 (a0.Datas.length : Int)) ∧ t 13 = .sc (.int .i64 v6) ∧ t 38 = slc o4 v5.length co4 ∧ t 40 = .osl b29 0 ([{ x11 with Cons := v15 }] : List api_Data).length (some ([{ x11 with Cons := v15 }] : List api_Data).length) ∧ H b29 = some (.cells (encs c32 ([{ x11 with Cons := v15 }] : List api_Data)) 32) ∧ b29 < n ∧ OwnC H 32 4 c32 o4 co4 v5 ∧ (∀ i, o4 = some i → i < n) ∧ (∀ i, o4 = some i → i ≠ b29)) ⟨n, by simp [ht', f11], by simp [ht', f12], by simp [ht', f13], by simp [ht', f38], by simp [ht'], upd_same _ _ _, Nat.lt_succ_self _, b_o4.mono (fun i hi => upd_ne _ _ (Nat.ne_of_lt (l_o4 i hi))), fun i hi => Nat.lt_succ_of_lt (l_o4 i hi), fun i hi => Nat.ne_of_lt (l_o4 i hi)⟩ ?_
    clear f11 f12 f13 f38 f39 b_o4 l_o4 ht' t'
    rintro t H n ⟨b29, f11, f12, f13, f38, f40, b_b29, l_b29, b_o4, l_o4, d_b29_o4⟩
    obtain ⟨x30, hx30, h⟩ := bnd h
    obtain ⟨r1x30, r2x30, r3x30⟩ := appM_ok hx30
    obtain ⟨o31, co31, H9, n9, e9, w9, le9, fr9, kp9⟩ := append_ownC (e := c32) (z := 4) (st := 22) T.t22 rfl T.t32 rfl (by decide) rfl (by decide) b_o4 l_o4 (y := .osl b29 0 ([{ x11 with Cons := v15 }] : List api_Data).length (some ([{ x11 with Cons := v15 }] : List api_Data).length)) ([{ x11 with Cons := v15 }] : List api_Data) (elems_row b_b29 _) (all_encs ok32 _) r1x30 r2x30
    rw [r3x30] at e9 w9
    refine Stk.om ((mop_append T.t22 rfl).trans (by rw [show ev t (.tmp 38) = t 38 from rfl, f38]; rw [show ev t (.tmp 40) = t 40 from rfl, f40];  exact e9)) (by simp [f11, f12, f13, f38, f40]) rfl (fun t' ht' => ?_)
    refine Stk.gen (fun t H n => t 11 = .ssl (encs c32 a0.Datas) a0.Datas.length false ∧ t 12 = .sc (.int .i64 (a0.Datas.length : Int)) ∧ t 13 = .sc (.int .i64 v6) ∧ t 41 = slc o31 x30.length co31 ∧ OwnC H 32 4 c32 o31 co31 x30 ∧ (∀ i, o31 = some i → i < n)) ⟨by simp [ht', f11], by simp [ht', f12], by simp [ht', f13], by simp [ht'], w9, fun i hi => (fr9 i hi).2⟩ ?_
    clear f11 f12 f13 f38 f40 b_b29 l_b29 b_o4 l_o4 d_b29_o4 ht' t'
    rintro t H n ⟨f11, f12, f13, f41, b_o31, l_o31⟩
    refine Stk.run 1 (fun t H n => t 3 = slc o31 x30.length co31 ∧ t 11 = .ssl (encs c32 a0.Datas) a0.Datas.length false ∧ t 12 = .sc (.int .i64 (a0.Datas.length : Int)) ∧ t 13 = .sc (.int .i64 v6) ∧ OwnC H 32 4 c32 o31 co31 x30 ∧ (∀ i, o31 = some i → i < n)) (fun J hJ => ?_) ?_
    · simp [-splice, f11, f12, f13, f41]
      exact hJ _ _ _ ⟨by simp [-splice, f11, f12, f13, f41], by simp [f11], by simp [f12], by simp [f13], b_o31, l_o31⟩
    clear f11 f12 f13 f41 b_o31 l_o31
    rintro t H n ⟨f3, f11, f12, f13, b_o31, l_o31⟩
    refine Stk.on ?_
    refine Stk.bn ?_
    refine Stk.rg ?_
    refine Stk.run 2 (fun t H n => t 3 = slc o31 x30.length co31 ∧ t 11 = .ssl (encs c32 a0.Datas) a0.Datas.length false ∧ t 12 = .sc (.int .i64 (a0.Datas.length : Int)) ∧ t 13 = .sc (.int .i64 (IntKind.i64.wrap (v6 + 1))) ∧ OwnC H 32 4 c32 o31 co31 x30 ∧ (∀ i, o31 = some i → i < n)) (fun J hJ => ?_) ?_
    · simp [-splice, f3, f11, f12, f13]
      exact hJ _ _ _ ⟨by simp [f3], by simp [f11], by simp [f12], by simp [-splice, f3, f11, f12, f13], b_o31, l_o31⟩
    clear f3 f11 f12 f13 b_o31 l_o31
    rintro t H n ⟨f3, f11, f12, f13, b_o31, l_o31⟩
    refine Stk.on ?_
    exact Stk.ln μ (Nat.lt_succ_self _) (hJ1 _ _ _ _ ⟨o31, co31, x30, (IntKind.i64.wrap (v6 + 1)), h, f3, f11, f12, f13, b_o31, l_o31⟩)
  · have h := cF hb10 h
    refine Stk.ex rfl ?_
    refine Stk.sq ?_
    refine Stk.rg ?_
    refine Stk.run 2 (fun t H n => t 2 = slc o4 v5.length co4 ∧ OwnC H 32 4 c32 o4 co4 v5 ∧ (∀ i, o4 = some i → i < n)) (fun J hJ => ?_) ?_
    · simp [-splice, f3, f11, f12, f13, f14]
      exact hJ _ _ _ ⟨by simp [-splice, f3, f11, f12, f13, f14], b_o4, l_o4⟩
    clear f3 f11 f12 f13 f14 b_o4 l_o4
    rintro t H n ⟨f2, b_o4, l_o4⟩
    refine Stk.on ?_
    refine Stk.rt ?_
    have hq := Option.some.inj h; subst hq
    exact (hr _ _ _ (slc o4 v5.length co4) (o4.toList) (by simp [f2]) (.inr (.inr (view_ownC fr32 b_o4 (fun i hi => by simp [hi]))))).1
end Go.Proofs.Ytappiofmkoelnaa.M
