/-
  The functions come to them.
-/
import Derived.Test.YtappiofmkoelnaaTtM
import Derived.Test.YtappiofmkoelnaaTtW1
namespace Go.Proofs.Ytappiofmkoelnaa.M
open Go.Proofs.YtappiofmkoelnaaW.Ah Go.Proofs.Ytappiofmkoelnaa
set_option linter.unusedVariables false
set_option linter.unusedSimpArgs false
set_option maxRecDepth 8000
attribute [local simp] T.t3 T.t4 T.t9 T.t22 T.t30 T.t32 T.t35 T.t40 List.range List.range.loop
attribute [-simp] appendAV fillAV
theorem ok_ty_Con (F : Nat) (a0 : (List api_Data)) (a1 : ByteArray) (r : (Int × Int × Bool)) (h : ty_Con F a0 a1 = some r) : RunF Try.prog T.T 9 [.ssl (encs c32 a0) a0.length false, .sc (.string a1)] (.tup [.sc (.int .i64 r.1), .sc (.int .i64 r.2.1), .sc (.bool r.2.2)]) := by
  rw [ty_Con] at h
  refine RunF.z Try.func9 rfl rfl rfl rfl rfl (fun C hr => ?_)
  refine Stk.gen (fun t H n => t 0 = .ssl (encs c32 a0) a0.length false ∧ t 1 = .sc (.string a1)) ⟨by simp, by simp⟩ ?_
  rintro t H n ⟨f0, f1⟩
  refine Stk.sq ?_
  refine Stk.rg ?_
  refine Stk.om (mop_box T.t9 (cs := c9 a1) (by show partOk (t 1) = true; rw [f1]; rfl) (by show cellsOf (t 1) = _; rw [f1]; rfl)) (by simp [f0, f1]) rfl (fun t' ht' => ?_)
  refine Stk.gen (fun t H n => ∃ b1, t 0 = .ssl (encs c32 a0) a0.length false ∧ t 3 = .own b1 0 ∧ H b1 = some (.cells (c9 a1) 9) ∧ b1 < n) ⟨n, by simp [ht', f0], by simp [ht'], upd_same _ _ _, Nat.lt_succ_self _⟩ ?_
  clear f0 f1 ht' t'
  rintro t H n ⟨b1, f0, f3, b_b1, l_b1⟩
  refine Stk.run 3 (fun t H n => t 0 = .ssl (encs c32 a0) a0.length false ∧ t 3 = .own b1 0 ∧ H b1 = some (.cells (c9 a1) 9) ∧ b1 < n) (fun J hJ => ?_) ?_
  · simp [-splice, f0, f3, b_b1]
    exact hJ _ _ _ ⟨by simp [f0], by simp [f3], b_b1, l_b1⟩
  clear f0 f3 b_b1 l_b1
  rintro t H n ⟨f0, f3, b_b1, l_b1⟩
  refine Stk.on ?_
  refine Stk.sq ?_
  refine Stk.sq ?_
  refine Stk.rg ?_
  refine Stk.run 3 (fun t H n => t 3 = .own b1 0 ∧ t 10 = .ssl (encs c32 a0) a0.length false ∧ t 11 = .sc (.int .i64 (a0.length : Int)) ∧ t 12 = .sc (.int .i64 0) ∧ H b1 = some (.cells (c9 a1) 9) ∧ b1 < n) (fun J hJ => ?_) ?_
  · simp [-splice, f0, f3, b_b1]
    exact hJ _ _ _ ⟨by simp [f3], by simp [-splice, f0, f3, b_b1], by simp [-splice, f0, f3, b_b1], by simp [-splice, f0, f3, b_b1], b_b1, l_b1⟩
  clear f0 f3 b_b1 l_b1
  rintro t H n ⟨f3, f10, f11, f12, b_b1, l_b1⟩
  refine Stk.on ?_
  refine Stk.bk ?_
  refine Stk.lo (fun μ t H n => ∃ v2 : Int, ty_Con_L0 F a0 a1 μ v2 = some r ∧ t 3 = .own b1 0 ∧ t 10 = .ssl (encs c32 a0) a0.length false ∧ t 11 = .sc (.int .i64 (a0.length : Int)) ∧ t 12 = .sc (.int .i64 v2) ∧ H b1 = some (.cells (c9 a1) 9) ∧ b1 < n) F ⟨0, h, f3, f10, f11, f12, b_b1, l_b1⟩ ?_
  clear h f3 f10 f11 f12 b_b1 l_b1
  rintro J1 hJ1 μ t H n ⟨v2, h, f3, f10, f11, f12, b_b1, l_b1⟩
  cases μ with
  | zero => exact absurd h (by simp [ty_Con_L0])
  | succ μ =>
  rw [ty_Con_L0] at h
  refine Stk.sq ?_
  refine Stk.rg ?_
  refine Stk.run 1 (fun t H n => t 3 = .own b1 0 ∧ t 10 = .ssl (encs c32 a0) a0.length false ∧ t 11 = .sc (.int .i64 (a0.length : Int)) ∧ t 12 = .sc (.int .i64 v2) ∧ t 13 = .sc (.bool (decide (v2 < (a0.length : Int)))) ∧ H b1 = some (.cells (c9 a1) 9) ∧ b1 < n) (fun J hJ => ?_) ?_
  · simp [-splice, f3, f10, f11, f12, b_b1]
    exact hJ _ _ _ ⟨by simp [f3], by simp [f10], by simp [f11], by simp [f12], by simp [-splice, f3, f10, f11, f12, b_b1], b_b1, l_b1⟩
  clear f3 f10 f11 f12 b_b1 l_b1
  rintro t H n ⟨f3, f10, f11, f12, f13, b_b1, l_b1⟩
  refine Stk.on ?_
  refine Stk.sq ?_
  refine Stk.cond (decide (v2 < (a0.length : Int))) (by exact f13) (fun hb4 => ?_) (fun hb4 => ?_)
  · have h := cT hb4 h
    refine Stk.sk ?_
    refine Stk.sq ?_
    refine Stk.bk ?_
    refine Stk.sq ?_
    refine Stk.rg ?_
    obtain ⟨x5, hx5, h⟩ := bnd h
    obtain ⟨i0x5, i1x5, i2x5, _⟩ := idx_ok hx5
    have ex5_0_32 : partOf T.T 32 (encs c32 a0) (v2.toNat * 4) = some (.agg (c32 x5)) := by
        have e0 := part_elem0 (e := c32) (z := 4) (T := T.T) (ty := 32) T.t32 (by decide) (by decide) hx5 0 (by decide)
        (try simp only [Nat.mul_one, Nat.add_zero] at e0)
        exact e0.trans (ld_32_0_32 _)
    refine Stk.run 3 (fun t H n => t 3 = .own b1 0 ∧ t 10 = .ssl (encs c32 a0) a0.length false ∧ t 11 = .sc (.int .i64 (a0.length : Int)) ∧ t 12 = .sc (.int .i64 v2) ∧ t 14 = .sc (.int .i64 v2) ∧ t 16 = .agg (c32 x5) ∧ H b1 = some (.cells (c9 a1) 9) ∧ b1 < n) (fun J hJ => ?_) ?_
    · simp [-splice, f3, f10, f11, f12, f13, b_b1, i0x5, i1x5, pd32, ex5_0_32]
      exact hJ _ _ _ ⟨by simp [f3], by simp [f10], by simp [f11], by simp [f12], by simp [-splice, f3, f10, f11, f12, f13, b_b1, i0x5, i1x5, pd32, ex5_0_32], by simp [-splice, f3, f10, f11, f12, f13, b_b1, i0x5, i1x5, pd32, ex5_0_32], b_b1, l_b1⟩
    clear f3 f10 f11 f12 f13 b_b1 l_b1
    rintro t H n ⟨f3, f10, f11, f12, f14, f16, b_b1, l_b1⟩
    refine Stk.oz T.t32 (cs := c32 (api_Data.mk (api_Pos.mk 0 0) ⟨#[]⟩ [])) (by rfl) rfl (by simp [f3, f10, f11, f12, f14, f16]) rfl (fun t' ht' => ?_)
    refine Stk.gen (fun t H n => ∃ b6, t 3 = .own b1 0 ∧ t 8 = .own b6 0 ∧ t 10 = .ssl (encs c32 a0) a0.length false ∧ t 11 = .sc (.int .i64 (a0.length : Int)) ∧ t 12 = .sc (.int .i64 v2) ∧ t 14 = .sc (.int .i64 v2) ∧ t 16 = .agg (c32 x5) ∧ H b1 = some (.cells (c9 a1) 9) ∧ b1 < n ∧ H b6 = some (.cells (c32 (api_Data.mk (api_Pos.mk 0 0) ⟨#[]⟩ [])) 32) ∧ b6 < n ∧ b1 ≠ b6) ⟨n, by simp [ht', f3], by simp [ht'], by simp [ht', f10], by simp [ht', f11], by simp [ht', f12], by simp [ht', f14], by simp [ht', f16], (upd_ne _ _ (Nat.ne_of_lt l_b1)).trans b_b1, Nat.lt_succ_of_lt l_b1, upd_same _ _ _, Nat.lt_succ_self _, Nat.ne_of_lt l_b1⟩ ?_
    clear f3 f10 f11 f12 f14 f16 b_b1 l_b1 ht' t'
    rintro t H n ⟨b6, f3, f8, f10, f11, f12, f14, f16, b_b1, l_b1, b_b6, l_b6, d_b1_b6⟩
    refine Stk.run 1 (fun t H n => t 3 = .own b1 0 ∧ t 7 = .sc (.int .i64 v2) ∧ t 8 = .own b6 0 ∧ t 10 = .ssl (encs c32 a0) a0.length false ∧ t 11 = .sc (.int .i64 (a0.length : Int)) ∧ t 12 = .sc (.int .i64 v2) ∧ t 16 = .agg (c32 x5) ∧ H b1 = some (.cells (c9 a1) 9) ∧ b1 < n ∧ H b6 = some (.cells (c32 (api_Data.mk (api_Pos.mk 0 0) ⟨#[]⟩ [])) 32) ∧ b6 < n ∧ b1 ≠ b6) (fun J hJ => ?_) ?_
    · simp [-splice, f3, f8, f10, f11, f12, f14, f16, b_b1, b_b6]
      exact hJ _ _ _ ⟨by simp [f3], by simp [-splice, f3, f8, f10, f11, f12, f14, f16, b_b1, b_b6], by simp [f8], by simp [f10], by simp [f11], by simp [f12], by simp [f16], b_b1, l_b1, b_b6, l_b6, d_b1_b6⟩
    clear f3 f8 f10 f11 f12 f14 f16 b_b1 l_b1 b_b6 l_b6 d_b1_b6
    rintro t H n ⟨f3, f7, f8, f10, f11, f12, f16, b_b1, l_b1, b_b6, l_b6, d_b1_b6⟩
    refine Stk.om (mop_store (z := 4) rfl f8 b_b6 f16 (len32 _) (by rw [len32]; decide) (ok32 _) (st_32_0_32 _ _)) (by simp [f3, f7, f8, f10, f11, f12, f16]) rfl (fun t' ht' => ?_)
    refine Stk.gen (fun t H n => t 3 = .own b1 0 ∧ t 7 = .sc (.int .i64 v2) ∧ t 8 = .own b6 0 ∧ t 10 = .ssl (encs c32 a0) a0.length false ∧ t 11 = .sc (.int .i64 (a0.length : Int)) ∧ t 12 = .sc (.int .i64 v2) ∧ H b1 = some (.cells (c9 a1) 9) ∧ b1 < n ∧ H b6 = some (.cells (c32 x5) 32) ∧ b6 < n ∧ b1 ≠ b6) ⟨by simp [ht', f3], by simp [ht', f7], by simp [ht', f8], by simp [ht', f10], by simp [ht', f11], by simp [ht', f12], (upd_ne _ _ d_b1_b6).trans b_b1, l_b1, upd_same _ _ _, l_b6, d_b1_b6⟩ ?_
    clear f3 f7 f8 f10 f11 f12 f16 b_b1 l_b1 b_b6 l_b6 d_b1_b6 ht' t'
    rintro t H n ⟨f3, f7, f8, f10, f11, f12, b_b1, l_b1, b_b6, l_b6, d_b1_b6⟩
    refine Stk.on ?_
    refine Stk.sq ?_
    refine Stk.rg ?_
    refine Stk.run 3 (fun t H n => t 3 = .own b1 0 ∧ t 7 = .sc (.int .i64 v2) ∧ t 10 = .ssl (encs c32 a0) a0.length false ∧ t 11 = .sc (.int .i64 (a0.length : Int)) ∧ t 12 = .sc (.int .i64 v2) ∧ t 18 = .ssl (encs c35 x5.Cons) x5.Cons.length false ∧ t 19 = .fn (.func 25) [] [.own b1 0] ∧ H b1 = some (.cells (c9 a1) 9) ∧ b1 < n) (fun J hJ => ?_) ?_
    · simp [-splice, f3, f7, f8, f10, f11, f12, b_b1, b_b6, ld_32_3_30]
      exact hJ _ _ _ ⟨by simp [f3], by simp [f7], by simp [f10], by simp [f11], by simp [f12], by simp [-splice, f3, f7, f8, f10, f11, f12, b_b1, b_b6, ld_32_3_30], by simp [-splice, f3, f7, f8, f10, f11, f12, b_b1, b_b6, ld_32_3_30], b_b1, l_b1⟩
    clear f3 f7 f8 f10 f11 f12 b_b1 l_b1 b_b6 l_b6 d_b1_b6
    rintro t H n ⟨f3, f7, f10, f11, f12, f18, f19, b_b1, l_b1⟩
    obtain ⟨x7, hx7, h⟩ := bnd h
    refine Stk.cv (g := 24) (args := [.ssl (encs c35 x5.Cons) x5.Cons.length false, .fn (.func 25) [] [.own b1 0]]) (args' := [.ssl (encs c35 x5.Cons) x5.Cons.length false, .fn (.func 25) [] [.sh (c9 a1)]]) (v := .sc (.int .i64 x7)) [b1] (ok_slices_IndexFunc_api_Con_api_Con F _ _ 25 [] [.sh (c9 a1)] ⟨by simp [freeL, free, fr9], by simp [freeL, free, fr9]⟩ (fun y0 r h => ok_ty_Con_1 F y0 _ r h) _ hx7) (by simp [f3, f7, f10, f11, f12, f18, f19]) rfl rfl (by simp [f3, f7, f10, f11, f12, f18, f19]) (.cons (.free (freeL_encs fr35 _)) (.cons (.fn .nil (.cons (view_blk b_b1 (by simp) (fr9 _)) (.nil))) (.nil))) (.inr rfl) (fun t' ht' => ?_)
    refine Stk.gen (fun t H n => t 3 = .own b1 0 ∧ t 7 = .sc (.int .i64 v2) ∧ t 10 = .ssl (encs c32 a0) a0.length false ∧ t 11 = .sc (.int .i64 (a0.length : Int)) ∧ t 12 = .sc (.int .i64 v2) ∧ t 20 = .sc (.int .i64 x7) ∧ H b1 = some (.cells (c9 a1) 9) ∧ b1 < n) ⟨by simp [ht', f3], by simp [ht', f7], by simp [ht', f10], by simp [ht', f11], by simp [ht', f12], by simp [ht'], b_b1, l_b1⟩ ?_
    clear f3 f7 f10 f11 f12 f18 f19 b_b1 l_b1 ht' t'
    rintro t H n ⟨f3, f7, f10, f11, f12, f20, b_b1, l_b1⟩
    refine Stk.run 1 (fun t H n => t 3 = .own b1 0 ∧ t 7 = .sc (.int .i64 v2) ∧ t 9 = .sc (.int .i64 x7) ∧ t 10 = .ssl (encs c32 a0) a0.length false ∧ t 11 = .sc (.int .i64 (a0.length : Int)) ∧ t 12 = .sc (.int .i64 v2) ∧ H b1 = some (.cells (c9 a1) 9) ∧ b1 < n) (fun J hJ => ?_) ?_
    · simp [-splice, f3, f7, f10, f11, f12, f20, b_b1]
      exact hJ _ _ _ ⟨by simp [f3], by simp [f7], by simp [-splice, f3, f7, f10, f11, f12, f20, b_b1], by simp [f10], by simp [f11], by simp [f12], b_b1, l_b1⟩
    clear f3 f7 f10 f11 f12 f20 b_b1 l_b1
    rintro t H n ⟨f3, f7, f9, f10, f11, f12, b_b1, l_b1⟩
    refine Stk.on ?_
    refine Stk.sq ?_
    refine Stk.rg ?_
    refine Stk.run 2 (fun t H n => t 3 = .own b1 0 ∧ t 7 = .sc (.int .i64 v2) ∧ t 9 = .sc (.int .i64 x7) ∧ t 10 = .ssl (encs c32 a0) a0.length false ∧ t 11 = .sc (.int .i64 (a0.length : Int)) ∧ t 12 = .sc (.int .i64 v2) ∧ t 22 = .sc (.bool (decide (0 ≤ x7))) ∧ H b1 = some (.cells (c9 a1) 9) ∧ b1 < n) (fun J hJ => ?_) ?_
    · simp [-splice, f3, f7, f9, f10, f11, f12, b_b1]
      exact hJ _ _ _ ⟨by simp [f3], by simp [f7], by simp [f9], by simp [f10], by simp [f11], by simp [f12], by simp [-splice, f3, f7, f9, f10, f11, f12, b_b1], b_b1, l_b1⟩
    clear f3 f7 f9 f10 f11 f12 b_b1 l_b1
    rintro t H n ⟨f3, f7, f9, f10, f11, f12, f22, b_b1, l_b1⟩
    refine Stk.on ?_
    refine Stk.cond (decide (0 ≤ x7)) (by exact f22) (fun hb8 => ?_) (fun hb8 => ?_)
    · have h := cT hb8 h
      refine Stk.sq ?_
      refine Stk.rg ?_
      refine Stk.run 5 (fun t H n => t 4 = .sc (.int .i64 v2) ∧ t 5 = .sc (.int .i64 x7) ∧ t 6 = .sc (.bool true)) (fun J hJ => ?_) ?_
      · simp [-splice, f3, f7, f9, f10, f11, f12, f22, b_b1]
        exact hJ _ _ _ ⟨by simp [-splice, f3, f7, f9, f10, f11, f12, f22, b_b1], by simp [-splice, f3, f7, f9, f10, f11, f12, f22, b_b1], by simp [-splice, f3, f7, f9, f10, f11, f12, f22, b_b1]⟩
      clear f3 f7 f9 f10 f11 f12 f22 b_b1 l_b1
      rintro t H n ⟨f4, f5, f6⟩
      refine Stk.on ?_
      refine Stk.rt ?_
      have hq := Option.some.inj h; subst hq
      exact (hr _ _ _ (.tup [.sc (.int .i64 v2), .sc (.int .i64 x7), .sc (.bool true)]) ([]) (by simp [f4, f5, f6]) (.inr (.inr (.tup (.cons (.free (rfl)) (.cons (.free (rfl)) (.cons (.free (rfl)) (.nil)))))))).1
    · have h := cF hb8 h
      refine Stk.sk ?_
      refine Stk.bn ?_
      refine Stk.rg ?_
      refine Stk.run 2 (fun t H n => t 3 = .own b1 0 ∧ t 10 = .ssl (encs c32 a0) a0.length false ∧ t 11 = .sc (.int .i64 (a0.length : Int)) ∧ t 12 = .sc (.int .i64 (IntKind.i64.wrap (v2 + 1))) ∧ H b1 = some (.cells (c9 a1) 9) ∧ b1 < n) (fun J hJ => ?_) ?_
      · simp [-splice, f3, f7, f9, f10, f11, f12, f22, b_b1]
        exact hJ _ _ _ ⟨by simp [f3], by simp [f10], by simp [f11], by simp [-splice, f3, f7, f9, f10, f11, f12, f22, b_b1], b_b1, l_b1⟩
      clear f3 f7 f9 f10 f11 f12 f22 b_b1 l_b1
      rintro t H n ⟨f3, f10, f11, f12, b_b1, l_b1⟩
      refine Stk.on ?_
      exact Stk.ln μ (Nat.lt_succ_self _) (hJ1 _ _ _ _ ⟨(IntKind.i64.wrap (v2 + 1)), h, f3, f10, f11, f12, b_b1, l_b1⟩)
  · have h := cF hb4 h
    refine Stk.ex rfl ?_
    refine Stk.sq ?_
    refine Stk.rg ?_
    refine Stk.run 3 (fun t H n => t 4 = .sc (.int .i64 0) ∧ t 5 = .sc (.int .i64 0) ∧ t 6 = .sc (.bool false)) (fun J hJ => ?_) ?_
    · simp [-splice, f3, f10, f11, f12, f13, b_b1]
      exact hJ _ _ _ ⟨by simp [-splice, f3, f10, f11, f12, f13, b_b1], by simp [-splice, f3, f10, f11, f12, f13, b_b1], by simp [-splice, f3, f10, f11, f12, f13, b_b1]⟩
    clear f3 f10 f11 f12 f13 b_b1 l_b1
    rintro t H n ⟨f4, f5, f6⟩
    refine Stk.on ?_
    refine Stk.rt ?_
    have hq := Option.some.inj h; subst hq
    exact (hr _ _ _ (.tup [.sc (.int .i64 0), .sc (.int .i64 0), .sc (.bool false)]) ([]) (by simp [f4, f5, f6]) (.inr (.inr (.tup (.cons (.free (rfl)) (.cons (.free (rfl)) (.cons (.free (rfl)) (.nil)))))))).1
theorem ok_R07_Con (F : Nat) (a0 : (List api_Data)) (a1 : ByteArray) (r : (Int × Int × Bool)) (h : R07_Con F a0 a1 = some r) : RunF Try.prog T.T 15 [.ssl (encs c32 a0) a0.length false, .sc (.string a1)] (.tup [.sc (.int .i64 r.1), .sc (.int .i64 r.2.1), .sc (.bool r.2.2)]) := by
  rw [R07_Con] at h
  refine RunF.z Try.func15 rfl rfl rfl rfl rfl (fun C hr => ?_)
  refine Stk.gen (fun t H n => t 0 = .ssl (encs c32 a0) a0.length false ∧ t 1 = .sc (.string a1)) ⟨by simp, by simp⟩ ?_
  rintro t H n ⟨f0, f1⟩
  refine Stk.sq ?_
  refine Stk.rg ?_
  refine Stk.run 3 (fun t H n => t 0 = .ssl (encs c32 a0) a0.length false ∧ t 1 = .sc (.string a1)) (fun J hJ => ?_) ?_
  · simp [-splice, f0, f1]
    exact hJ _ _ _ ⟨by simp [f0], by simp [f1]⟩
  clear f0 f1
  rintro t H n ⟨f0, f1⟩
  refine Stk.on ?_
  refine Stk.sq ?_
  refine Stk.sq ?_
  refine Stk.rg ?_
  refine Stk.run 1 (fun t H n => t 0 = .ssl (encs c32 a0) a0.length false ∧ t 1 = .sc (.string a1) ∧ t 7 = .sc (.int .i64 0)) (fun J hJ => ?_) ?_
  · simp [-splice, f0, f1]
    exact hJ _ _ _ ⟨by simp [f0], by simp [f1], by simp [-splice, f0, f1]⟩
  clear f0 f1
  rintro t H n ⟨f0, f1, f7⟩
  refine Stk.on ?_
  refine Stk.bk ?_
  refine Stk.lo (fun μ t H n => ∃ v1 : Int, R07_Con_L0 F a0 a1 μ v1 = some r ∧ t 0 = .ssl (encs c32 a0) a0.length false ∧ t 1 = .sc (.string a1) ∧ t 7 = .sc (.int .i64 v1)) F ⟨0, h, f0, f1, f7⟩ ?_
  clear h f0 f1 f7
  rintro J1 hJ1 μ t H n ⟨v1, h, f0, f1, f7⟩
  cases μ with
  | zero => exact absurd h (by simp [R07_Con_L0])
  | succ μ =>
  rw [R07_Con_L0] at h
  refine Stk.sq ?_
  refine Stk.sq ?_
  refine Stk.rg ?_
  refine Stk.run 4 (fun t H n => t 0 = .ssl (encs c32 a0) a0.length false ∧ t 1 = .sc (.string a1) ∧ t 7 = .sc (.int .i64 v1) ∧ t 12 = .sc (.bool (decide (v1 < (a0.length : Int))))) (fun J hJ => ?_) ?_
  · simp [-splice, f0, f1, f7]
    exact hJ _ _ _ ⟨by simp [f0], by simp [f1], by simp [f7], by simp [-splice, f0, f1, f7]⟩
  clear f0 f1 f7
  rintro t H n ⟨f0, f1, f7, f12⟩
  refine Stk.on ?_
  refine Stk.cond (decide (v1 < (a0.length : Int))) (by exact f12) (fun hb3 => ?_) (fun hb3 => ?_)
  · have h := cT hb3 h
    refine Stk.sk ?_
    refine Stk.sq ?_
    refine Stk.bk ?_
    refine Stk.sq ?_
    refine Stk.rg ?_
    refine Stk.run 1 (fun t H n => t 0 = .ssl (encs c32 a0) a0.length false ∧ t 1 = .sc (.string a1) ∧ t 7 = .sc (.int .i64 v1) ∧ t 8 = .sc (.int .i64 0)) (fun J hJ => ?_) ?_
    · simp [-splice, f0, f1, f7, f12]
      exact hJ _ _ _ ⟨by simp [f0], by simp [f1], by simp [f7], by simp [-splice, f0, f1, f7, f12]⟩
    clear f0 f1 f7 f12
    rintro t H n ⟨f0, f1, f7, f8⟩
    refine Stk.on ?_
    obtain ⟨K2, hK2, h⟩ := jnd h
    refine Stk.jn (fun t H n => K2 () = some r ∧ t 0 = .ssl (encs c32 a0) a0.length false ∧ t 1 = .sc (.string a1) ∧ t 7 = .sc (.int .i64 v1)) trivial (fun J2 hJ2 => ?_) ?_
    · skip
      refine Stk.bk ?_
      refine Stk.lo (fun μ t H n => ∃ v4 : Int, R07_Con_L1 F a0 a1 v1 K2 μ v4 = some r ∧ t 0 = .ssl (encs c32 a0) a0.length false ∧ t 1 = .sc (.string a1) ∧ t 7 = .sc (.int .i64 v1) ∧ t 8 = .sc (.int .i64 v4)) F ⟨0, h, f0, f1, f7, f8⟩ ?_
      clear h f0 f1 f7 f8
      rintro J3 hJ3 μ t H n ⟨v4, h, f0, f1, f7, f8⟩
      cases μ with
      | zero => exact absurd h (by simp [R07_Con_L1])
      | succ μ =>
      rw [R07_Con_L1] at h
      refine Stk.sq ?_
      refine Stk.sq ?_
      refine Stk.rg ?_
      obtain ⟨x6, hx6, h⟩ := bnd h
      obtain ⟨i0x6, i1x6, i2x6, _⟩ := idx_ok hx6
      have ex6_3_30 : partOf T.T 30 (encs c32 a0) (v1.toNat * 4 + 3) = some (.ssl (encs c35 x6.Cons) x6.Cons.length false) := by
          have e0 := part_elem0 (e := c32) (z := 4) (T := T.T) (ty := 30) T.t30 (by decide) (by decide) hx6 3 (by decide)
          (try simp only [Nat.mul_one, Nat.add_zero] at e0)
          exact e0.trans (ld_32_3_30 _)
      refine Stk.run 8 (fun t H n => t 0 = .ssl (encs c32 a0) a0.length false ∧ t 1 = .sc (.string a1) ∧ t 7 = .sc (.int .i64 v1) ∧ t 8 = .sc (.int .i64 v4) ∧ t 22 = .sc (.bool (decide (v4 < (x6.Cons.length : Int))))) (fun J hJ => ?_) ?_
      · simp [-splice, f0, f1, f7, f8, i0x6, i1x6, pd30, ex6_3_30]
        exact hJ _ _ _ ⟨by simp [f0], by simp [f1], by simp [f7], by simp [f8], by simp [-splice, f0, f1, f7, f8, i0x6, i1x6, pd30, ex6_3_30]⟩
      clear f0 f1 f7 f8
      rintro t H n ⟨f0, f1, f7, f8, f22⟩
      refine Stk.on ?_
      refine Stk.cond (decide (v4 < (x6.Cons.length : Int))) (by exact f22) (fun hb7 => ?_) (fun hb7 => ?_)
      · have h := cT hb7 h
        refine Stk.sk ?_
        refine Stk.sq ?_
        refine Stk.bk ?_
        refine Stk.sq ?_
        refine Stk.rg ?_
        obtain ⟨x8, hx8, h⟩ := bnd h
        obtain ⟨i0x8, i1x8, i2x8, _⟩ := idx_ok hx8
        have ex8_3_30 : partOf T.T 30 (encs c32 a0) (v1.toNat * 4 + 3) = some (.ssl (encs c35 x8.Cons) x8.Cons.length false) := by
            have e0 := part_elem0 (e := c32) (z := 4) (T := T.T) (ty := 30) T.t30 (by decide) (by decide) hx8 3 (by decide)
            (try simp only [Nat.mul_one, Nat.add_zero] at e0)
            exact e0.trans (ld_32_3_30 _)
        obtain ⟨x9, hx9, h⟩ := bnd h
        obtain ⟨i0x9, i1x9, i2x9, _⟩ := idx_ok hx9
        have ex9_0_9 : partOf T.T 9 (encs c35 x8.Cons) (v4.toNat * 2) = some (.sc (.string x9.Name)) := by
            have e0 := part_elem0 (e := c35) (z := 2) (T := T.T) (ty := 9) T.t9 (by decide) (by decide) hx9 0 (by decide)
            (try simp only [Nat.mul_one, Nat.add_zero] at e0)
            exact e0.trans (ld_35_0_9 _)
        refine Stk.run 11 (fun t H n => t 0 = .ssl (encs c32 a0) a0.length false ∧ t 1 = .sc (.string a1) ∧ t 7 = .sc (.int .i64 v1) ∧ t 8 = .sc (.int .i64 v4) ∧ t 35 = .sc (.bool (x9.Name.toList == a1.toList))) (fun J hJ => ?_) ?_
        · simp [-splice, f0, f1, f7, f8, f22, i0x8, i1x8, pd30, ex8_3_30, i0x9, i1x9, pd9, ex9_0_9]
          exact hJ _ _ _ ⟨by simp [f0], by simp [f1], by simp [f7], by simp [f8], by simp [-splice, f0, f1, f7, f8, f22, i0x8, i1x8, pd30, ex8_3_30, i0x9, i1x9, pd9, ex9_0_9]⟩
        clear f0 f1 f7 f8 f22
        rintro t H n ⟨f0, f1, f7, f8, f35⟩
        refine Stk.on ?_
        refine Stk.cond (x9.Name.toList == a1.toList) (by exact f35) (fun hb10 => ?_) (fun hb10 => ?_)
        · have h := cT hb10 h
          refine Stk.sq ?_
          refine Stk.rg ?_
          refine Stk.run 5 (fun t H n => t 4 = .sc (.int .i64 v1) ∧ t 5 = .sc (.int .i64 v4) ∧ t 6 = .sc (.bool true)) (fun J hJ => ?_) ?_
          · simp [-splice, f0, f1, f7, f8, f35]
            exact hJ _ _ _ ⟨by simp [-splice, f0, f1, f7, f8, f35], by simp [-splice, f0, f1, f7, f8, f35], by simp [-splice, f0, f1, f7, f8, f35]⟩
          clear f0 f1 f7 f8 f35
          rintro t H n ⟨f4, f5, f6⟩
          refine Stk.on ?_
          refine Stk.rt ?_
          have hq := Option.some.inj h; subst hq
          exact (hr _ _ _ (.tup [.sc (.int .i64 v1), .sc (.int .i64 v4), .sc (.bool true)]) ([]) (by simp [f4, f5, f6]) (.inr (.inr (.tup (.cons (.free (rfl)) (.cons (.free (rfl)) (.cons (.free (rfl)) (.nil)))))))).1
        · have h := cF hb10 h
          refine Stk.sk ?_
          refine Stk.bn ?_
          refine Stk.rg ?_
          refine Stk.run 3 (fun t H n => t 0 = .ssl (encs c32 a0) a0.length false ∧ t 1 = .sc (.string a1) ∧ t 7 = .sc (.int .i64 v1) ∧ t 8 = .sc (.int .i64 (IntKind.i64.wrap (v4 + 1)))) (fun J hJ => ?_) ?_
          · simp [-splice, f0, f1, f7, f8, f35]
            exact hJ _ _ _ ⟨by simp [f0], by simp [f1], by simp [f7], by simp [-splice, f0, f1, f7, f8, f35]⟩
          clear f0 f1 f7 f8 f35
          rintro t H n ⟨f0, f1, f7, f8⟩
          refine Stk.on ?_
          exact Stk.ln μ (Nat.lt_succ_self _) (hJ3 _ _ _ _ ⟨(IntKind.i64.wrap (v4 + 1)), h, f0, f1, f7, f8⟩)
      · have h := cF hb7 h
        refine Stk.ex rfl ?_
        exact Stk.ln 0 (by decide) (hJ2 _ _ _ ⟨h, f0, f1, f7⟩)
    clear h f0 f1 f7 f8
    rintro t H n ⟨h, f0, f1, f7⟩
    subst hK2
    refine Stk.bn ?_
    refine Stk.rg ?_
    refine Stk.run 3 (fun t H n => t 0 = .ssl (encs c32 a0) a0.length false ∧ t 1 = .sc (.string a1) ∧ t 7 = .sc (.int .i64 (IntKind.i64.wrap (v1 + 1)))) (fun J hJ => ?_) ?_
    · simp [-splice, f0, f1, f7]
      exact hJ _ _ _ ⟨by simp [f0], by simp [f1], by simp [-splice, f0, f1, f7]⟩
    clear f0 f1 f7
    rintro t H n ⟨f0, f1, f7⟩
    refine Stk.on ?_
    exact Stk.ln μ (Nat.lt_succ_self _) (hJ1 _ _ _ _ ⟨(IntKind.i64.wrap (v1 + 1)), h, f0, f1, f7⟩)
  · have h := cF hb3 h
    refine Stk.ex rfl ?_
    refine Stk.sq ?_
    refine Stk.rg ?_
    refine Stk.run 3 (fun t H n => t 4 = .sc (.int .i64 0) ∧ t 5 = .sc (.int .i64 0) ∧ t 6 = .sc (.bool false)) (fun J hJ => ?_) ?_
    · simp [-splice, f0, f1, f7, f12]
      exact hJ _ _ _ ⟨by simp [-splice, f0, f1, f7, f12], by simp [-splice, f0, f1, f7, f12], by simp [-splice, f0, f1, f7, f12]⟩
    clear f0 f1 f7 f12
    rintro t H n ⟨f4, f5, f6⟩
    refine Stk.on ?_
    refine Stk.rt ?_
    have hq := Option.some.inj h; subst hq
    exact (hr _ _ _ (.tup [.sc (.int .i64 0), .sc (.int .i64 0), .sc (.bool false)]) ([]) (by simp [f4, f5, f6]) (.inr (.inr (.tup (.cons (.free (rfl)) (.cons (.free (rfl)) (.cons (.free (rfl)) (.nil)))))))).1
theorem ok_ty_num (F : Nat)  (r : api_Type) (h : ty_num F  = some r) : RunF Try.prog T.T 42 [] (.agg (c40 r)) := by
  rw [ty_num] at h
  refine RunF.z Try.func42 rfl rfl rfl rfl rfl (fun C hr => ?_)
  refine Stk.gen (fun t H n => True) trivial ?_
  rintro t H n -
  refine Stk.sq ?_
  refine Stk.rg ?_
  refine Stk.oz T.t40 (cs := c40 (api_Type.mk 0 ⟨#[]⟩ [])) (by rw [u40]; rfl) rfl (by simp []) rfl (fun t' ht' => ?_)
  refine Stk.gen (fun t H n => ∃ b1, t 0 = .own b1 0 ∧ H b1 = some (.cells (c40 (api_Type.mk 0 ⟨#[]⟩ [])) 40) ∧ b1 < n) ⟨n, by simp [ht'], upd_same _ _ _, Nat.lt_succ_self _⟩ ?_
  clear  ht' t'
  rintro t H n ⟨b1, f0, b_b1, l_b1⟩
  refine Stk.on ?_
  refine Stk.sq ?_
  refine Stk.rg ?_
  refine Stk.ov (vop_build T.t40 rfl rfl (cs := c40 (api_Type.mk 0 ⟨#[]⟩ [])) (cs' := c40 (api_Type.mk 0 ⟨#[]⟩ [])) rfl (.cons rfl rfl rfl rfl rfl (rfl) (by rw [len40]; decide) (st_40_0_3 _ _) (.nil))) (by simp [f0]) rfl (fun t' ht' => ?_)
  refine Stk.gen (fun t H n => t 0 = .own b1 0 ∧ t 1 = .agg (c40 (api_Type.mk 0 ⟨#[]⟩ [])) ∧ H b1 = some (.cells (c40 (api_Type.mk 0 ⟨#[]⟩ [])) 40) ∧ b1 < n) ⟨by simp [ht', f0], by simp [ht'], b_b1, l_b1⟩ ?_
  clear f0 b_b1 l_b1 ht' t'
  rintro t H n ⟨f0, f1, b_b1, l_b1⟩
  refine Stk.om (mop_store (z := 3) rfl f0 b_b1 f1 (len40 _) (by rw [len40]; decide) (ok40 _) (st_40_0_40 _ _)) (by simp [f0, f1]) rfl (fun t' ht' => ?_)
  refine Stk.gen (fun t H n => t 0 = .own b1 0 ∧ H b1 = some (.cells (c40 (api_Type.mk 0 ⟨#[]⟩ [])) 40) ∧ b1 < n) ⟨by simp [ht', f0], upd_same _ _ _, l_b1⟩ ?_
  clear f0 f1 b_b1 l_b1 ht' t'
  rintro t H n ⟨f0, b_b1, l_b1⟩
  refine Stk.on ?_
  refine Stk.rt ?_
  have hq := Option.some.inj h; subst hq
  exact (hr _ _ _ (.agg (c40 (api_Type.mk 0 ⟨#[]⟩ []))) ([]) (by simp [f0, b_b1, ld_40_0_40]) (.inr (.inr (.free (fr40 _))))).1
theorem ok_ty_act (F : Nat)  (r : api_Type) (h : ty_act F  = some r) : RunF Try.prog T.T 43 [] (.agg (c40 r)) := by
  rw [ty_act] at h
  refine RunF.z Try.func43 rfl rfl rfl rfl rfl (fun C hr => ?_)
  refine Stk.gen (fun t H n => True) trivial ?_
  rintro t H n -
  refine Stk.sq ?_
  refine Stk.rg ?_
  refine Stk.oz T.t40 (cs := c40 (api_Type.mk 0 ⟨#[]⟩ [])) (by rw [u40]; rfl) rfl (by simp []) rfl (fun t' ht' => ?_)
  refine Stk.gen (fun t H n => ∃ b1, t 0 = .own b1 0 ∧ H b1 = some (.cells (c40 (api_Type.mk 0 ⟨#[]⟩ [])) 40) ∧ b1 < n) ⟨n, by simp [ht'], upd_same _ _ _, Nat.lt_succ_self _⟩ ?_
  clear  ht' t'
  rintro t H n ⟨b1, f0, b_b1, l_b1⟩
  refine Stk.on ?_
  refine Stk.sq ?_
  refine Stk.rg ?_
  refine Stk.ov (vop_build T.t40 rfl rfl (cs := c40 (api_Type.mk 0 ⟨#[]⟩ [])) (cs' := c40 (api_Type.mk 2 (⟨#[97, 99, 116]⟩ : ByteArray) [])) rfl (.cons rfl rfl rfl rfl rfl (rfl) (by rw [len40]; decide) (st_40_0_3 _ _) (.cons rfl rfl rfl rfl rfl (rfl) (by rw [len40]; decide) (st_40_1_9 _ _) (.nil)))) (by simp [f0]) rfl (fun t' ht' => ?_)
  refine Stk.gen (fun t H n => t 0 = .own b1 0 ∧ t 1 = .agg (c40 (api_Type.mk 2 (⟨#[97, 99, 116]⟩ : ByteArray) [])) ∧ H b1 = some (.cells (c40 (api_Type.mk 0 ⟨#[]⟩ [])) 40) ∧ b1 < n) ⟨by simp [ht', f0], by simp [ht'], b_b1, l_b1⟩ ?_
  clear f0 b_b1 l_b1 ht' t'
  rintro t H n ⟨f0, f1, b_b1, l_b1⟩
  refine Stk.om (mop_store (z := 3) rfl f0 b_b1 f1 (len40 _) (by rw [len40]; decide) (ok40 _) (st_40_0_40 _ _)) (by simp [f0, f1]) rfl (fun t' ht' => ?_)
  refine Stk.gen (fun t H n => t 0 = .own b1 0 ∧ H b1 = some (.cells (c40 (api_Type.mk 2 (⟨#[97, 99, 116]⟩ : ByteArray) [])) 40) ∧ b1 < n) ⟨by simp [ht', f0], upd_same _ _ _, l_b1⟩ ?_
  clear f0 f1 b_b1 l_b1 ht' t'
  rintro t H n ⟨f0, b_b1, l_b1⟩
  refine Stk.on ?_
  refine Stk.rt ?_
  have hq := Option.some.inj h; subst hq
  exact (hr _ _ _ (.agg (c40 (api_Type.mk 2 (⟨#[97, 99, 116]⟩ : ByteArray) []))) ([]) (by simp [f0, b_b1, ld_40_0_40]) (.inr (.inr (.free (fr40 _))))).1
end Go.Proofs.Ytappiofmkoelnaa.M
