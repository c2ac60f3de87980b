/-
  For AstSame: texts of the road to it, 15 of 16.
-/
import Derived.Test.YtappiofmkoelnaaGreatDoorKAstSame13
section
namespace Go.Proofs.YtappiofmkoelnaaGreatDoor.M
attribute [-simp] Go.Proofs.YtappiofmkoelnaaGreatDoorW.Ah.splice
open Go.Proofs.YtappiofmkoelnaaGreatDoorW.Ah Go.Proofs.YtappiofmkoelnaaGreatDoor
set_option linter.unusedVariables false
set_option linter.unusedSimpArgs false
set_option maxRecDepth 8000
attribute [local simp] T.t3 T.t4 T.t9 T.t22 T.t23 T.t24 T.t26 T.t33 T.t34 T.t70 T.t72 T.t73 T.t75 T.t77 T.t78 T.t81 T.t83 T.t84 T.t86 T.t87 T.t92 T.t105 List.range List.range.loop
attribute [-simp] appendAV fillAV
theorem ok_ast_FitExpr (F : Nat) (a0 : AExpr) (r : Bool) (h : ast_FitExpr F a0 = some r) : RunF Tryz.prog T.T 14 [.agg (c33 a0)] (.sc (.bool r)) := by
  rw [ast_FitExpr] at h
  refine RunF.z Tryz.func14 rfl rfl rfl rfl rfl (fun C hr => ?_)
  refine gn (fun t H n => t 0 = .agg (c33 a0)) (by simp) fun t H n q => ?_
  apply eY 2; simp [q]
  refine gn (fun t H n => t 0 = .agg (c33 a0)) (by simp [q]) fun t H n q => ?_
  refine Stk.om (mop_box T.t33 (cs := c33 a0) (by show partOk (t 0) = true; rw [q]; rfl) (by show cellsOf (t 0) = _; rw [q]; rfl)) (by simp [q]) rfl (fun t' ht' => ?_)
  refine gn (fun t H n => ∃ b1, t 1 = .own b1 0 ∧ H b1 = some (.cells (c33 a0) 33) ∧ b1 < n) ⟨n, by simp [ht'], upd_same _ _ _, Nat.lt_succ_self _⟩ fun t H n ⟨b1, q⟩ => ?_
  obtain ⟨x2, hx2, h⟩ := bnd h
  apply eY 5; simp [q, ld_33_0_33]
  refine cw (ok_ad_fitExpr F _ _ _ hx2) (by simp [q, ld_33_0_33]) rfl rfl (by simp [q, ld_33_0_33]) (.cons (.free (rfl)) (.cons (.free (fr33 _)) (.nil))) rfl ?_
  rintro _ rfl
  apply eY 3; simp [q, ld_33_0_33]
  obtain rfl := sj h
  exact (hF hr (by simp [q, ld_33_0_33]) rfl).1
theorem ok_sIxData (F : Nat) (a0 : (List AData)) (φ1 : AData → Option Bool) (g1 : FuncId) (first1 caps1 : List AV) (fr1 : freeL first1 = true ∧ freeL caps1 = true) (hφ1 : ∀ y0 r, φ1 y0 = some r → RunF Tryz.prog T.T g1 (first1 ++ [.agg (c72 y0)] ++ caps1) (.sc (.bool r))) (r : Int) (h : sIxData F a0 φ1 = some r) : RunF Tryz.prog T.T 166 [.ssl (encs c72 a0) a0.length false, .fn (.func g1) first1 caps1] (.sc (.int .i64 r)) := by
  rw [sIxData] at h
  refine RunF.z Tryz.func166 rfl rfl rfl rfl rfl (fun C hr => ?_)
  refine gn (fun t H n => t 0 = .ssl (encs c72 a0) a0.length false ∧ t 1 = .fn (.func g1) first1 caps1) ⟨by simp, by simp⟩ fun t H n q => ?_
  apply eY 12; simp [q]
  refine gn (fun t H n => t 0 = .ssl (encs c72 a0) a0.length false ∧ t 1 = .fn (.func g1) first1 caps1 ∧ t 7 = .sc (.int .i64 (a0.length : Int)) ∧ t 8 = .sc (.int .i64 0)) (by simp [q]) fun t H n q => ?_
  refine Stk.lo (fun μ t H n => ∃ v1 : Int, sIxData_L0 F a0 φ1 μ v1 = some r ∧ t 0 = .ssl (encs c72 a0) a0.length false ∧ t 1 = .fn (.func g1) first1 caps1 ∧ t 7 = .sc (.int .i64 (a0.length : Int)) ∧ t 8 = .sc (.int .i64 v1)) F ⟨0, h, q⟩ ?_
  clear q h
  rintro J1 hJ1 μ t H n ⟨v1, h, q⟩
  cases μ with
  | zero => exact absurd h (by simp [sIxData_L0])
  | succ μ =>
  rw [sIxData_L0] at h
  apply eY 5; simp [q]
  refine cd (decide (v1 < (a0.length : Int))) (by simp [q]) (fun hb3 => ?_) (fun hb3 => ?_)
  ·have h := cT hb3 h
   obtain ⟨x4, hx4, h⟩ := bnd h
   obtain ⟨i0x4, i1x4, i2x4, _⟩ := idx_ok hx4
   have ex4_0_72 : partOf T.T 72 (encs c72 a0) (v1.toNat * 4) = some (.agg (c72 x4)) := (part_elem0 (e := c72) (z := 4) (ty := 72) T.t72 (by decide) (by decide) hx4 0 (by decide)).trans (ld_72_0_72 _)
   obtain ⟨x5, hx5, h⟩ := bnd h
   apply eY 15; simp [q, i0x4, i1x4, pd72, ex4_0_72]
   refine Stk.cv (g := g1) (first := first1) (caps := caps1) (args := first1 ++ [.agg (c72 x4)] ++ caps1) (args' := first1 ++ [.agg (c72 x4)] ++ caps1) (v := .sc (.bool x5)) [] (hφ1 _ _ hx5) (by simp [q, i0x4, i1x4, pd72, ex4_0_72]) rfl (by simp [q, i0x4, i1x4, pd72, ex4_0_72]) (by simp [q, i0x4, i1x4, pd72, ex4_0_72]) (viewL_mid (x := [.agg (c72 x4)]) (y := [.agg (c72 x4)]) fr1.1 fr1.2 (.cons (.free (fr72 _)) (.nil))) (.inl ⟨rfl, rfl⟩) ?_
   rintro _ rfl
   apply eY 1; simp [q, i0x4, i1x4, pd72, ex4_0_72]
   refine cd x5 (by simp [q, i0x4, i1x4, pd72, ex4_0_72]) (fun hb6 => ?_) (fun hb6 => ?_)
   ·have h := cT hb6 h
    apply eY 6; simp [q, i0x4, i1x4, pd72, ex4_0_72]
    obtain rfl := sj h
    exact (hF hr (by simp [q, i0x4, i1x4, pd72, ex4_0_72]) rfl).1
   ·have h := cF hb6 h
    apply eY 6; simp [q, i0x4, i1x4, pd72, ex4_0_72]
    exact lm (hJ1 _ _ _ _ ⟨(IntKind.i64.wrap (v1 + 1)), h, by simp [q, i0x4, i1x4, pd72, ex4_0_72]⟩)
  ·have h := cF hb3 h
   refine Stk.ex rfl ?_
   apply eY 5; simp [q]
   obtain rfl := sj h
   exact (hF hr (by simp [q]) rfl).1
theorem ok_sCtData (F : Nat) (a0 : (List AData)) (φ1 : AData → Option Bool) (g1 : FuncId) (first1 caps1 : List AV) (fr1 : freeL first1 = true ∧ freeL caps1 = true) (hφ1 : ∀ y0 r, φ1 y0 = some r → RunF Tryz.prog T.T g1 (first1 ++ [.agg (c72 y0)] ++ caps1) (.sc (.bool r))) (r : Bool) (h : sCtData F a0 φ1 = some r) : RunF Tryz.prog T.T 100 [.ssl (encs c72 a0) a0.length false, .fn (.func g1) first1 caps1] (.sc (.bool r)) := by
  rw [sCtData] at h
  refine RunF.z Tryz.func100 rfl rfl rfl rfl rfl (fun C hr => ?_)
  refine gn (fun t H n => t 0 = .ssl (encs c72 a0) a0.length false ∧ t 1 = .fn (.func g1) first1 caps1) ⟨by simp, by simp⟩ fun t H n q => ?_
  obtain ⟨x1, hx1, h⟩ := bnd h
  apply eY 8; simp [q]
  refine cw (ok_sIxData F _ _ _ _ _ fr1 hφ1 _ hx1) (by simp [q]) rfl rfl (by simp [q]) (.cons (.free (freeL_encs fr72 _)) (.cons (.free (by simp [free, fr1])) (.nil))) rfl ?_
  rintro _ rfl
  apply eY 4; simp [q]
  obtain rfl := sj h
  exact (hF hr (by simp [q]) rfl).1
theorem ok_aev_AData_1 (F : Nat) (a0 : AData) (φ1 : AData → Option Bool) (g1 : FuncId) (first1 caps1 : List AV) (fr1 : freeL first1 = true ∧ freeL caps1 = true) (hφ1 : ∀ y0 r, φ1 y0 = some r → RunF Tryz.prog T.T g1 (first1 ++ [.agg (c72 y0)] ++ caps1) (.sc (.bool r))) (r : Bool) (h : aev_AData_1 F a0 φ1 = some r) : RunF Tryz.prog T.T 101 [.agg (c72 a0), .sh [.fn (.func g1) first1 caps1]] (.sc (.bool r)) := by
  rw [aev_AData_1] at h
  refine RunF.z Tryz.func101 rfl rfl rfl rfl rfl (fun C hr => ?_)
  refine gn (fun t H n => t 0 = .agg (c72 a0) ∧ t 1 = .sh [.fn (.func g1) first1 caps1]) ⟨by simp, by simp⟩ fun t H n q => ?_
  apply eY 2; simp [q]
  refine gn (fun t H n => t 0 = .agg (c72 a0) ∧ t 1 = .sh [.fn (.func g1) first1 caps1]) (by simp [q]) fun t H n q => ?_
  refine Stk.om (mop_box T.t72 (cs := c72 a0) (by show partOk (t 0) = true; rw [q.1]; rfl) (by show cellsOf (t 0) = _; rw [q.1]; rfl)) (by simp [q]) rfl (fun t' ht' => ?_)
  refine gn (fun t H n => ∃ b1, t 1 = .sh [.fn (.func g1) first1 caps1] ∧ t 2 = .own b1 0 ∧ H b1 = some (.cells (c72 a0) 72) ∧ b1 < n) ⟨n, j2 (by simp [ht', q]) ⟨upd_same _ _ _, Nat.lt_succ_self _⟩⟩ fun t H n ⟨b1, q⟩ => ?_
  obtain ⟨x2, hx2, h⟩ := bnd h
  apply eY 6; simp [q, ldF73, ld_72_0_72]
  refine Stk.cv (g := g1) (first := first1) (caps := caps1) (args := first1 ++ [.agg (c72 a0)] ++ caps1) (args' := first1 ++ [.agg (c72 a0)] ++ caps1) (v := .sc (.bool x2)) [] (hφ1 _ _ hx2) (by simp [q, ldF73, ld_72_0_72]) rfl (by simp [q, ldF73, ld_72_0_72]) (by simp [q, ldF73, ld_72_0_72]) (viewL_mid (x := [.agg (c72 a0)]) (y := [.agg (c72 a0)]) fr1.1 fr1.2 (.cons (.free (fr72 _)) (.nil))) (.inl ⟨rfl, rfl⟩) ?_
  rintro _ rfl
  apply eY 4; simp [q, ldF73, ld_72_0_72]
  obtain rfl := sj h
  exact (hF hr (by simp [q, ldF73, ld_72_0_72]) rfl).1
@[simp] abbrev Q10_1 (a0 : (List AData)) (a1 : Int) (a2 : Int) (t : Nat → AV) : Prop := t 0 = .ssl (encs c72 a0) a0.length false ∧ t 1 = .sc (.int .i64 a1) ∧ t 2 = .sc (.int .i64 a2)
theorem ok_aev_AData (F : Nat) (a0 : (List AData)) (a1 : Int) (a2 : Int) (φ3 : AData → Option Bool) (g3 : FuncId) (first3 caps3 : List AV) (fr3 : freeL first3 = true ∧ freeL caps3 = true) (hφ3 : ∀ y0 r, φ3 y0 = some r → RunF Tryz.prog T.T g3 (first3 ++ [.agg (c72 y0)] ++ caps3) (.sc (.bool r))) (r : Bool) (h : aev_AData F a0 a1 a2 φ3 = some r) : RunF Tryz.prog T.T 37 [.ssl (encs c72 a0) a0.length false, .sc (.int .i64 a1), .sc (.int .i64 a2), .fn (.func g3) first3 caps3] (.sc (.bool r)) := by
  rw [aev_AData] at h
  refine RunF.z Tryz.func37 rfl rfl rfl rfl rfl (fun C hr => ?_)
  refine gn (fun t H n => Q10_1 a0 a1 a2 t ∧ t 3 = .fn (.func g3) first3 caps3) ⟨⟨by simp, by simp, by simp⟩, by simp⟩ fun t H n q => ?_
  apply eY 2; simp [q]
  refine gn (fun t H n => Q10_1 a0 a1 a2 t ∧ t 3 = .fn (.func g3) first3 caps3) (by simp [q]) fun t H n q => ?_
  refine Stk.om (mop_box T.t73 (cs := [.fn (.func g3) first3 caps3]) (by show partOk (t 3) = true; rw [q.2]; rfl) (by show cellsOf (t 3) = _; rw [q.2]; rfl)) (by simp [q]) rfl (fun t' ht' => ?_)
  refine gn (fun t H n => ∃ b1, Q10_1 a0 a1 a2 t ∧ t 7 = .own b1 0 ∧ H b1 = some (.cells ([.fn (.func g3) first3 caps3]) 73) ∧ b1 < n) ⟨n, j2 (by simp [ht', q]) ⟨upd_same _ _ _, Nat.lt_succ_self _⟩⟩ fun t H n ⟨b1, ⟨f0, f1, f2⟩, f7, b_b1, l_b1⟩ => ?_
  apply eY 9; simp [f0, f1, f2, f7, b_b1]
  refine Stk.gd 5 13 18 (fun z => .sc (.bool (z && (decide ((a0.length : Int) ≤ a2))))) (w := decide (a1 ≤ (a0.length : Int))) (by simp [f0, f1, f2, f7, b_b1]) (by simp [f0, f1, f2, f7, b_b1]) (by simp [f0, f1, f2, f7, b_b1]) ?_; simp [f0, f1, f2, f7, b_b1]
  apply eY 1; simp [f0, f1, f2, f7, b_b1]
  refine gn (fun t H n => t 0 = .ssl (encs c72 a0) a0.length false ∧ t 7 = .own b1 0 ∧ t 19 = .sc (.bool ((decide (a1 ≤ (a0.length : Int))) && (decide ((a0.length : Int) ≤ a2)))) ∧ H b1 = some (.cells ([.fn (.func g3) first3 caps3]) 73) ∧ b1 < n) (by and_intros <;> first | assumption | simp [f0, f1, f2, f7, b_b1]) fun t H n q => ?_
  obtain ⟨K1, hK1, h⟩ := jnd h
  refine Stk.jo 5 (fun t H n => ∃ v2 : Bool, K1 v2 = some r ∧ t 24 = .sc (.bool v2)) (fun J1 hJ1 => ?_) ?_
  · rcases Bool.eq_false_or_eq_true ((decide (a1 ≤ (a0.length : Int))) && (decide ((a0.length : Int) ≤ a2))) with hb1 | hb1
    · obtain ⟨f0, f7, f19, b_b1, l_b1⟩ := q
      rw [hb1] at f19
      replace h := cT hb1 h
      obtain ⟨x3, hx3, h⟩ := bnd h
      apply eY 2; simp [f0, f7, f19, b_b1]
      refine Stk.cv (g := 100) (args := [.ssl (encs c72 a0) a0.length false, .fn (.func 101) [] [.own b1 0]]) (args' := [.ssl (encs c72 a0) a0.length false, .fn (.func 101) [] [.sh [.fn (.func g3) first3 caps3]]]) (v := .sc (.bool x3)) [b1] (ok_sCtData F _ _ 101 [] [.sh [.fn (.func g3) first3 caps3]] (by and_intros <;> first | assumption | simp [freeL, free, fr3]) (fun y0 r h => ok_aev_AData_1 F y0 _ _ _ _ fr3 hφ3 r h) _ hx3) (by simp [f0, f7, f19, b_b1]) rfl rfl (by simp [f0, f7, f19, b_b1]) (.cons (.free (freeL_encs fr72 _)) (.cons (.fn .nil (.cons (view_blk b_b1 (by simp) (by simp [freeL, free, fr3])) (.nil))) (.nil))) (.inr rfl) ?_
      rintro _ rfl
      apply eY 3; simp [f0, f7, f19, b_b1]
      exact l0 (hJ1 _ _ _ ⟨(!x3), h, by simp [f0, f7, f19, b_b1]⟩)
    · obtain ⟨f0, f7, f19, b_b1, l_b1⟩ := q
      rw [hb1] at f19
      replace h := cF hb1 h
      apply eY 6; simp [f0, f7, f19, b_b1]
      exact l0 (hJ1 _ _ _ ⟨false, h, by simp [f0, f7, f19, b_b1]⟩)
  clear q h
  rintro t H n ⟨v2, h, q⟩
  subst hK1
  apply eY 3; simp [q]
  obtain rfl := sj h
  exact (hF hr (by simp [q]) rfl).1
theorem ok_sIxCon (F : Nat) (a0 : (List ACon)) (φ1 : ACon → Option Bool) (g1 : FuncId) (first1 caps1 : List AV) (fr1 : freeL first1 = true ∧ freeL caps1 = true) (hφ1 : ∀ y0 r, φ1 y0 = some r → RunF Tryz.prog T.T g1 (first1 ++ [.agg (c92 y0)] ++ caps1) (.sc (.bool r))) (r : Int) (h : sIxCon F a0 φ1 = some r) : RunF Tryz.prog T.T 130 [.ssl (encs c92 a0) a0.length false, .fn (.func g1) first1 caps1] (.sc (.int .i64 r)) := by
  rw [sIxCon] at h
  refine RunF.z Tryz.func130 rfl rfl rfl rfl rfl (fun C hr => ?_)
  refine gn (fun t H n => t 0 = .ssl (encs c92 a0) a0.length false ∧ t 1 = .fn (.func g1) first1 caps1) ⟨by simp, by simp⟩ fun t H n q => ?_
  apply eY 12; simp [q]
  refine gn (fun t H n => t 0 = .ssl (encs c92 a0) a0.length false ∧ t 1 = .fn (.func g1) first1 caps1 ∧ t 7 = .sc (.int .i64 (a0.length : Int)) ∧ t 8 = .sc (.int .i64 0)) (by simp [q]) fun t H n q => ?_
  refine Stk.lo (fun μ t H n => ∃ v1 : Int, sIxCon_L0 F a0 φ1 μ v1 = some r ∧ t 0 = .ssl (encs c92 a0) a0.length false ∧ t 1 = .fn (.func g1) first1 caps1 ∧ t 7 = .sc (.int .i64 (a0.length : Int)) ∧ t 8 = .sc (.int .i64 v1)) F ⟨0, h, q⟩ ?_
  clear q h
  rintro J1 hJ1 μ t H n ⟨v1, h, q⟩
  cases μ with
  | zero => exact absurd h (by simp [sIxCon_L0])
  | succ μ =>
  rw [sIxCon_L0] at h
  apply eY 5; simp [q]
  refine cd (decide (v1 < (a0.length : Int))) (by simp [q]) (fun hb3 => ?_) (fun hb3 => ?_)
  ·have h := cT hb3 h
   obtain ⟨x4, hx4, h⟩ := bnd h
   obtain ⟨i0x4, i1x4, i2x4, _⟩ := idx_ok hx4
   have ex4_0_92 : partOf T.T 92 (encs c92 a0) (v1.toNat * 2) = some (.agg (c92 x4)) := (part_elem0 (e := c92) (z := 2) (ty := 92) T.t92 (by decide) (by decide) hx4 0 (by decide)).trans (ld_92_0_92 _)
   obtain ⟨x5, hx5, h⟩ := bnd h
   apply eY 15; simp [q, i0x4, i1x4, pd92, ex4_0_92]
   refine Stk.cv (g := g1) (first := first1) (caps := caps1) (args := first1 ++ [.agg (c92 x4)] ++ caps1) (args' := first1 ++ [.agg (c92 x4)] ++ caps1) (v := .sc (.bool x5)) [] (hφ1 _ _ hx5) (by simp [q, i0x4, i1x4, pd92, ex4_0_92]) rfl (by simp [q, i0x4, i1x4, pd92, ex4_0_92]) (by simp [q, i0x4, i1x4, pd92, ex4_0_92]) (viewL_mid (x := [.agg (c92 x4)]) (y := [.agg (c92 x4)]) fr1.1 fr1.2 (.cons (.free (fr92 _)) (.nil))) (.inl ⟨rfl, rfl⟩) ?_
   rintro _ rfl
   apply eY 1; simp [q, i0x4, i1x4, pd92, ex4_0_92]
   refine cd x5 (by simp [q, i0x4, i1x4, pd92, ex4_0_92]) (fun hb6 => ?_) (fun hb6 => ?_)
   ·have h := cT hb6 h
    apply eY 6; simp [q, i0x4, i1x4, pd92, ex4_0_92]
    obtain rfl := sj h
    exact (hF hr (by simp [q, i0x4, i1x4, pd92, ex4_0_92]) rfl).1
   ·have h := cF hb6 h
    apply eY 6; simp [q, i0x4, i1x4, pd92, ex4_0_92]
    exact lm (hJ1 _ _ _ _ ⟨(IntKind.i64.wrap (v1 + 1)), h, by simp [q, i0x4, i1x4, pd92, ex4_0_92]⟩)
  ·have h := cF hb3 h
   refine Stk.ex rfl ?_
   apply eY 5; simp [q]
   obtain rfl := sj h
   exact (hF hr (by simp [q]) rfl).1
theorem ok_sCtCon (F : Nat) (a0 : (List ACon)) (φ1 : ACon → Option Bool) (g1 : FuncId) (first1 caps1 : List AV) (fr1 : freeL first1 = true ∧ freeL caps1 = true) (hφ1 : ∀ y0 r, φ1 y0 = some r → RunF Tryz.prog T.T g1 (first1 ++ [.agg (c92 y0)] ++ caps1) (.sc (.bool r))) (r : Bool) (h : sCtCon F a0 φ1 = some r) : RunF Tryz.prog T.T 56 [.ssl (encs c92 a0) a0.length false, .fn (.func g1) first1 caps1] (.sc (.bool r)) := by
  rw [sCtCon] at h
  refine RunF.z Tryz.func56 rfl rfl rfl rfl rfl (fun C hr => ?_)
  refine gn (fun t H n => t 0 = .ssl (encs c92 a0) a0.length false ∧ t 1 = .fn (.func g1) first1 caps1) ⟨by simp, by simp⟩ fun t H n q => ?_
  obtain ⟨x1, hx1, h⟩ := bnd h
  apply eY 8; simp [q]
  refine cw (ok_sIxCon F _ _ _ _ _ fr1 hφ1 _ hx1) (by simp [q]) rfl rfl (by simp [q]) (.cons (.free (freeL_encs fr92 _)) (.cons (.free (by simp [free, fr1])) (.nil))) rfl ?_
  rintro _ rfl
  apply eY 4; simp [q]
  obtain rfl := sj h
  exact (hF hr (by simp [q]) rfl).1
theorem ok_aev_ACon_1 (F : Nat) (a0 : ACon) (φ1 : ACon → Option Bool) (g1 : FuncId) (first1 caps1 : List AV) (fr1 : freeL first1 = true ∧ freeL caps1 = true) (hφ1 : ∀ y0 r, φ1 y0 = some r → RunF Tryz.prog T.T g1 (first1 ++ [.agg (c92 y0)] ++ caps1) (.sc (.bool r))) (r : Bool) (h : aev_ACon_1 F a0 φ1 = some r) : RunF Tryz.prog T.T 167 [.agg (c92 a0), .sh [.fn (.func g1) first1 caps1]] (.sc (.bool r)) := by
  rw [aev_ACon_1] at h
  refine RunF.z Tryz.func167 rfl rfl rfl rfl rfl (fun C hr => ?_)
  refine gn (fun t H n => t 0 = .agg (c92 a0) ∧ t 1 = .sh [.fn (.func g1) first1 caps1]) ⟨by simp, by simp⟩ fun t H n q => ?_
  apply eY 2; simp [q]
  refine gn (fun t H n => t 0 = .agg (c92 a0) ∧ t 1 = .sh [.fn (.func g1) first1 caps1]) (by simp [q]) fun t H n q => ?_
  refine Stk.om (mop_box T.t92 (cs := c92 a0) (by show partOk (t 0) = true; rw [q.1]; rfl) (by show cellsOf (t 0) = _; rw [q.1]; rfl)) (by simp [q]) rfl (fun t' ht' => ?_)
  refine gn (fun t H n => ∃ b1, t 1 = .sh [.fn (.func g1) first1 caps1] ∧ t 2 = .own b1 0 ∧ H b1 = some (.cells (c92 a0) 92) ∧ b1 < n) ⟨n, j2 (by simp [ht', q]) ⟨upd_same _ _ _, Nat.lt_succ_self _⟩⟩ fun t H n ⟨b1, q⟩ => ?_
  obtain ⟨x2, hx2, h⟩ := bnd h
  apply eY 6; simp [q, ldF105, ld_92_0_92]
  refine Stk.cv (g := g1) (first := first1) (caps := caps1) (args := first1 ++ [.agg (c92 a0)] ++ caps1) (args' := first1 ++ [.agg (c92 a0)] ++ caps1) (v := .sc (.bool x2)) [] (hφ1 _ _ hx2) (by simp [q, ldF105, ld_92_0_92]) rfl (by simp [q, ldF105, ld_92_0_92]) (by simp [q, ldF105, ld_92_0_92]) (viewL_mid (x := [.agg (c92 a0)]) (y := [.agg (c92 a0)]) fr1.1 fr1.2 (.cons (.free (fr92 _)) (.nil))) (.inl ⟨rfl, rfl⟩) ?_
  rintro _ rfl
  apply eY 4; simp [q, ldF105, ld_92_0_92]
  obtain rfl := sj h
  exact (hF hr (by simp [q, ldF105, ld_92_0_92]) rfl).1
@[simp] abbrev Q10_2 (a0 : (List ACon)) (a1 : Int) (a2 : Int) (t : Nat → AV) : Prop := t 0 = .ssl (encs c92 a0) a0.length false ∧ t 1 = .sc (.int .i64 a1) ∧ t 2 = .sc (.int .i64 a2)
theorem ok_aev_ACon (F : Nat) (a0 : (List ACon)) (a1 : Int) (a2 : Int) (φ3 : ACon → Option Bool) (g3 : FuncId) (first3 caps3 : List AV) (fr3 : freeL first3 = true ∧ freeL caps3 = true) (hφ3 : ∀ y0 r, φ3 y0 = some r → RunF Tryz.prog T.T g3 (first3 ++ [.agg (c92 y0)] ++ caps3) (.sc (.bool r))) (r : Bool) (h : aev_ACon F a0 a1 a2 φ3 = some r) : RunF Tryz.prog T.T 103 [.ssl (encs c92 a0) a0.length false, .sc (.int .i64 a1), .sc (.int .i64 a2), .fn (.func g3) first3 caps3] (.sc (.bool r)) := by
  rw [aev_ACon] at h
  refine RunF.z Tryz.func103 rfl rfl rfl rfl rfl (fun C hr => ?_)
  refine gn (fun t H n => Q10_2 a0 a1 a2 t ∧ t 3 = .fn (.func g3) first3 caps3) ⟨⟨by simp, by simp, by simp⟩, by simp⟩ fun t H n q => ?_
  apply eY 2; simp [q]
  refine gn (fun t H n => Q10_2 a0 a1 a2 t ∧ t 3 = .fn (.func g3) first3 caps3) (by simp [q]) fun t H n q => ?_
  refine Stk.om (mop_box T.t105 (cs := [.fn (.func g3) first3 caps3]) (by show partOk (t 3) = true; rw [q.2]; rfl) (by show cellsOf (t 3) = _; rw [q.2]; rfl)) (by simp [q]) rfl (fun t' ht' => ?_)
  refine gn (fun t H n => ∃ b1, Q10_2 a0 a1 a2 t ∧ t 7 = .own b1 0 ∧ H b1 = some (.cells ([.fn (.func g3) first3 caps3]) 105) ∧ b1 < n) ⟨n, j2 (by simp [ht', q]) ⟨upd_same _ _ _, Nat.lt_succ_self _⟩⟩ fun t H n ⟨b1, ⟨f0, f1, f2⟩, f7, b_b1, l_b1⟩ => ?_
  apply eY 9; simp [f0, f1, f2, f7, b_b1]
  refine Stk.gd 5 13 18 (fun z => .sc (.bool (z && (decide ((a0.length : Int) ≤ a2))))) (w := decide (a1 ≤ (a0.length : Int))) (by simp [f0, f1, f2, f7, b_b1]) (by simp [f0, f1, f2, f7, b_b1]) (by simp [f0, f1, f2, f7, b_b1]) ?_; simp [f0, f1, f2, f7, b_b1]
  apply eY 1; simp [f0, f1, f2, f7, b_b1]
  refine gn (fun t H n => t 0 = .ssl (encs c92 a0) a0.length false ∧ t 7 = .own b1 0 ∧ t 19 = .sc (.bool ((decide (a1 ≤ (a0.length : Int))) && (decide ((a0.length : Int) ≤ a2)))) ∧ H b1 = some (.cells ([.fn (.func g3) first3 caps3]) 105) ∧ b1 < n) (by and_intros <;> first | assumption | simp [f0, f1, f2, f7, b_b1]) fun t H n q => ?_
  obtain ⟨K1, hK1, h⟩ := jnd h
  refine Stk.jo 5 (fun t H n => ∃ v2 : Bool, K1 v2 = some r ∧ t 24 = .sc (.bool v2)) (fun J1 hJ1 => ?_) ?_
  · rcases Bool.eq_false_or_eq_true ((decide (a1 ≤ (a0.length : Int))) && (decide ((a0.length : Int) ≤ a2))) with hb1 | hb1
    · obtain ⟨f0, f7, f19, b_b1, l_b1⟩ := q
      rw [hb1] at f19
      replace h := cT hb1 h
      obtain ⟨x3, hx3, h⟩ := bnd h
      apply eY 2; simp [f0, f7, f19, b_b1]
      refine Stk.cv (g := 56) (args := [.ssl (encs c92 a0) a0.length false, .fn (.func 167) [] [.own b1 0]]) (args' := [.ssl (encs c92 a0) a0.length false, .fn (.func 167) [] [.sh [.fn (.func g3) first3 caps3]]]) (v := .sc (.bool x3)) [b1] (ok_sCtCon F _ _ 167 [] [.sh [.fn (.func g3) first3 caps3]] (by and_intros <;> first | assumption | simp [freeL, free, fr3]) (fun y0 r h => ok_aev_ACon_1 F y0 _ _ _ _ fr3 hφ3 r h) _ hx3) (by simp [f0, f7, f19, b_b1]) rfl rfl (by simp [f0, f7, f19, b_b1]) (.cons (.free (freeL_encs fr92 _)) (.cons (.fn .nil (.cons (view_blk b_b1 (by simp) (by simp [freeL, free, fr3])) (.nil))) (.nil))) (.inr rfl) ?_
      rintro _ rfl
      apply eY 3; simp [f0, f7, f19, b_b1]
      exact l0 (hJ1 _ _ _ ⟨(!x3), h, by simp [f0, f7, f19, b_b1]⟩)
    · obtain ⟨f0, f7, f19, b_b1, l_b1⟩ := q
      rw [hb1] at f19
      replace h := cF hb1 h
      apply eY 6; simp [f0, f7, f19, b_b1]
      exact l0 (hJ1 _ _ _ ⟨false, h, by simp [f0, f7, f19, b_b1]⟩)
  clear q h
  rintro t H n ⟨v2, h, q⟩
  subst hK1
  apply eY 3; simp [q]
  obtain rfl := sj h
  exact (hF hr (by simp [q]) rfl).1
theorem ok_ast_fitCon (F : Nat) (a0 : ACon) (r : Bool) (h : ast_fitCon F a0 = some r) : RunF Tryz.prog T.T 104 [.agg (c92 a0)] (.sc (.bool r)) := by
  rw [ast_fitCon] at h
  refine RunF.z Tryz.func104 rfl rfl rfl rfl rfl (fun C hr => ?_)
  refine gn (fun t H n => t 0 = .agg (c92 a0)) (by simp) fun t H n q => ?_
  apply eY 2; simp [q]
  refine gn (fun t H n => t 0 = .agg (c92 a0)) (by simp [q]) fun t H n q => ?_
  refine Stk.om (mop_box T.t92 (cs := c92 a0) (by show partOk (t 0) = true; rw [q]; rfl) (by show cellsOf (t 0) = _; rw [q]; rfl)) (by simp [q]) rfl (fun t' ht' => ?_)
  refine gn (fun t H n => ∃ b1, t 1 = .own b1 0 ∧ H b1 = some (.cells (c92 a0) 92) ∧ b1 < n) ⟨n, by simp [ht'], upd_same _ _ _, Nat.lt_succ_self _⟩ fun t H n ⟨b1, q⟩ => ?_
  obtain ⟨x2, hx2, h⟩ := bnd h
  apply eY 6; simp [q, ld_92_0_9]
  refine cw (ok_ast_great F _ _ hx2) (by simp [q, ld_92_0_9]) rfl rfl (by simp [q, ld_92_0_9]) (.cons (.free (rfl)) (.nil)) rfl ?_
  rintro _ rfl
  apply eY 1; simp [q, ld_92_0_9]
  refine gn (fun t H n => t 1 = .own b1 0 ∧ t 6 = .sc (.bool x2) ∧ H b1 = some (.cells (c92 a0) 92) ∧ b1 < n) (by simp [q, ld_92_0_9]) fun t H n q => ?_
  obtain ⟨K1, hK1, h⟩ := jnd h
  refine Stk.jo 4 (fun t H n => ∃ v3 : Bool, K1 v3 = some r ∧ t 10 = .sc (.bool v3)) (fun J1 hJ1 => ?_) ?_
  · rcases Bool.eq_false_or_eq_true x2 with hb1 | hb1
    · obtain ⟨f1, f6, b_b1, l_b1⟩ := q
      rw [hb1] at f6
      replace h := cT hb1 h
      obtain ⟨x4, hx4, h⟩ := bnd h
      apply eY 2; simp [f1, f6, b_b1, ld_92_1_24]
      refine cw (ok_aev_AType F _ _ _ _ 18 [] [] (by and_intros <;> first | assumption | simp [freeL, free]) (fun y0 r h => ok_ast_FitType F y0 r h) _ hx4) (by simp [f1, f6, b_b1, ld_92_1_24]) rfl rfl (by simp [f1, f6, b_b1, ld_92_1_24]) (.cons (.free (freeL_encs fr26 _)) (.cons (.free (rfl)) (.cons (.free (rfl)) (.cons (.fn .nil (.nil)) (.nil))))) rfl ?_
      rintro _ rfl
      apply eY 2; simp [f1, f6, b_b1, ld_92_1_24]
      exact l0 (hJ1 _ _ _ ⟨x4, h, by simp [f1, f6, b_b1, ld_92_1_24]⟩)
    · obtain ⟨f1, f6, b_b1, l_b1⟩ := q
      rw [hb1] at f6
      replace h := cF hb1 h
      apply eY 5; simp [f1, f6, b_b1]
      exact l0 (hJ1 _ _ _ ⟨false, h, by simp [f1, f6, b_b1]⟩)
  clear q h
  rintro t H n ⟨v3, h, q⟩
  subst hK1
  apply eY 3; simp [q]
  obtain rfl := sj h
  exact (hF hr (by simp [q]) rfl).1
theorem ok_ast_fitData (F : Nat) (a0 : AData) (r : Bool) (h : ast_fitData F a0 = some r) : RunF Tryz.prog T.T 38 [.agg (c72 a0)] (.sc (.bool r)) := by
  rw [ast_fitData] at h
  refine RunF.z Tryz.func38 rfl rfl rfl rfl rfl (fun C hr => ?_)
  refine gn (fun t H n => t 0 = .agg (c72 a0)) (by simp) fun t H n q => ?_
  apply eY 2; simp [q]
  refine gn (fun t H n => t 0 = .agg (c72 a0)) (by simp [q]) fun t H n q => ?_
  refine Stk.om (mop_box T.t72 (cs := c72 a0) (by show partOk (t 0) = true; rw [q]; rfl) (by show cellsOf (t 0) = _; rw [q]; rfl)) (by simp [q]) rfl (fun t' ht' => ?_)
  refine gn (fun t H n => ∃ b1, t 1 = .own b1 0 ∧ H b1 = some (.cells (c72 a0) 72) ∧ b1 < n) ⟨n, by simp [ht'], upd_same _ _ _, Nat.lt_succ_self _⟩ fun t H n ⟨b1, q⟩ => ?_
  obtain ⟨x2, hx2, h⟩ := bnd h
  apply eY 6; simp [q, ld_72_2_9]
  refine cw (ok_ast_declared F _ _ hx2) (by simp [q, ld_72_2_9]) rfl rfl (by simp [q, ld_72_2_9]) (.cons (.free (rfl)) (.nil)) rfl ?_
  rintro _ rfl
  apply eY 1; simp [q, ld_72_2_9]
  refine gn (fun t H n => t 1 = .own b1 0 ∧ t 6 = .sc (.bool x2) ∧ H b1 = some (.cells (c72 a0) 72) ∧ b1 < n) (by simp [q, ld_72_2_9]) fun t H n q => ?_
  obtain ⟨K1, hK1, h⟩ := jnd h
  refine Stk.jo 4 (fun t H n => ∃ v3 : Bool, K1 v3 = some r ∧ t 10 = .sc (.bool v3)) (fun J1 hJ1 => ?_) ?_
  · rcases Bool.eq_false_or_eq_true x2 with hb1 | hb1
    · obtain ⟨f1, f6, b_b1, l_b1⟩ := q
      rw [hb1] at f6
      replace h := cT hb1 h
      obtain ⟨x4, hx4, h⟩ := bnd h
      apply eY 2; simp [f1, f6, b_b1, ld_72_3_70]
      refine cw (ok_aev_ACon F _ _ _ _ 104 [] [] (by and_intros <;> first | assumption | simp [freeL, free]) (fun y0 r h => ok_ast_fitCon F y0 r h) _ hx4) (by simp [f1, f6, b_b1, ld_72_3_70]) rfl rfl (by simp [f1, f6, b_b1, ld_72_3_70]) (.cons (.free (freeL_encs fr92 _)) (.cons (.free (rfl)) (.cons (.free (rfl)) (.cons (.fn .nil (.nil)) (.nil))))) rfl ?_
      rintro _ rfl
      apply eY 2; simp [f1, f6, b_b1, ld_72_3_70]
      exact l0 (hJ1 _ _ _ ⟨x4, h, by simp [f1, f6, b_b1, ld_72_3_70]⟩)
    · obtain ⟨f1, f6, b_b1, l_b1⟩ := q
      rw [hb1] at f6
      replace h := cF hb1 h
      apply eY 5; simp [f1, f6, b_b1]
      exact l0 (hJ1 _ _ _ ⟨false, h, by simp [f1, f6, b_b1]⟩)
  clear q h
  rintro t H n ⟨v3, h, q⟩
  subst hK1
  apply eY 3; simp [q]
  obtain rfl := sj h
  exact (hF hr (by simp [q]) rfl).1
theorem ok_sIxFun (F : Nat) (a0 : (List AFun)) (φ1 : AFun → Option Bool) (g1 : FuncId) (first1 caps1 : List AV) (fr1 : freeL first1 = true ∧ freeL caps1 = true) (hφ1 : ∀ y0 r, φ1 y0 = some r → RunF Tryz.prog T.T g1 (first1 ++ [.agg (c77 y0)] ++ caps1) (.sc (.bool r))) (r : Int) (h : sIxFun F a0 φ1 = some r) : RunF Tryz.prog T.T 168 [.ssl (encs c77 a0) a0.length false, .fn (.func g1) first1 caps1] (.sc (.int .i64 r)) := by
  rw [sIxFun] at h
  refine RunF.z Tryz.func168 rfl rfl rfl rfl rfl (fun C hr => ?_)
  refine gn (fun t H n => t 0 = .ssl (encs c77 a0) a0.length false ∧ t 1 = .fn (.func g1) first1 caps1) ⟨by simp, by simp⟩ fun t H n q => ?_
  apply eY 12; simp [q]
  refine gn (fun t H n => t 0 = .ssl (encs c77 a0) a0.length false ∧ t 1 = .fn (.func g1) first1 caps1 ∧ t 7 = .sc (.int .i64 (a0.length : Int)) ∧ t 8 = .sc (.int .i64 0)) (by simp [q]) fun t H n q => ?_
  refine Stk.lo (fun μ t H n => ∃ v1 : Int, sIxFun_L0 F a0 φ1 μ v1 = some r ∧ t 0 = .ssl (encs c77 a0) a0.length false ∧ t 1 = .fn (.func g1) first1 caps1 ∧ t 7 = .sc (.int .i64 (a0.length : Int)) ∧ t 8 = .sc (.int .i64 v1)) F ⟨0, h, q⟩ ?_
  clear q h
  rintro J1 hJ1 μ t H n ⟨v1, h, q⟩
  cases μ with
  | zero => exact absurd h (by simp [sIxFun_L0])
  | succ μ =>
  rw [sIxFun_L0] at h
  apply eY 5; simp [q]
  refine cd (decide (v1 < (a0.length : Int))) (by simp [q]) (fun hb3 => ?_) (fun hb3 => ?_)
  ·have h := cT hb3 h
   obtain ⟨x4, hx4, h⟩ := bnd h
   obtain ⟨i0x4, i1x4, i2x4, _⟩ := idx_ok hx4
   have ex4_0_77 : partOf T.T 77 (encs c77 a0) (v1.toNat * 15) = some (.agg (c77 x4)) := (part_elem0 (e := c77) (z := 15) (ty := 77) T.t77 (by decide) (by decide) hx4 0 (by decide)).trans (ld_77_0_77 _)
   obtain ⟨x5, hx5, h⟩ := bnd h
   apply eY 15; simp [q, i0x4, i1x4, pd77, ex4_0_77]
   refine Stk.cv (g := g1) (first := first1) (caps := caps1) (args := first1 ++ [.agg (c77 x4)] ++ caps1) (args' := first1 ++ [.agg (c77 x4)] ++ caps1) (v := .sc (.bool x5)) [] (hφ1 _ _ hx5) (by simp [q, i0x4, i1x4, pd77, ex4_0_77]) rfl (by simp [q, i0x4, i1x4, pd77, ex4_0_77]) (by simp [q, i0x4, i1x4, pd77, ex4_0_77]) (viewL_mid (x := [.agg (c77 x4)]) (y := [.agg (c77 x4)]) fr1.1 fr1.2 (.cons (.free (fr77 _)) (.nil))) (.inl ⟨rfl, rfl⟩) ?_
   rintro _ rfl
   apply eY 1; simp [q, i0x4, i1x4, pd77, ex4_0_77]
   refine cd x5 (by simp [q, i0x4, i1x4, pd77, ex4_0_77]) (fun hb6 => ?_) (fun hb6 => ?_)
   ·have h := cT hb6 h
    apply eY 6; simp [q, i0x4, i1x4, pd77, ex4_0_77]
    obtain rfl := sj h
    exact (hF hr (by simp [q, i0x4, i1x4, pd77, ex4_0_77]) rfl).1
   ·have h := cF hb6 h
    apply eY 6; simp [q, i0x4, i1x4, pd77, ex4_0_77]
    exact lm (hJ1 _ _ _ _ ⟨(IntKind.i64.wrap (v1 + 1)), h, by simp [q, i0x4, i1x4, pd77, ex4_0_77]⟩)
  ·have h := cF hb3 h
   refine Stk.ex rfl ?_
   apply eY 5; simp [q]
   obtain rfl := sj h
   exact (hF hr (by simp [q]) rfl).1
theorem ok_sCtFun (F : Nat) (a0 : (List AFun)) (φ1 : AFun → Option Bool) (g1 : FuncId) (first1 caps1 : List AV) (fr1 : freeL first1 = true ∧ freeL caps1 = true) (hφ1 : ∀ y0 r, φ1 y0 = some r → RunF Tryz.prog T.T g1 (first1 ++ [.agg (c77 y0)] ++ caps1) (.sc (.bool r))) (r : Bool) (h : sCtFun F a0 φ1 = some r) : RunF Tryz.prog T.T 105 [.ssl (encs c77 a0) a0.length false, .fn (.func g1) first1 caps1] (.sc (.bool r)) := by
  rw [sCtFun] at h
  refine RunF.z Tryz.func105 rfl rfl rfl rfl rfl (fun C hr => ?_)
  refine gn (fun t H n => t 0 = .ssl (encs c77 a0) a0.length false ∧ t 1 = .fn (.func g1) first1 caps1) ⟨by simp, by simp⟩ fun t H n q => ?_
  obtain ⟨x1, hx1, h⟩ := bnd h
  apply eY 8; simp [q]
  refine cw (ok_sIxFun F _ _ _ _ _ fr1 hφ1 _ hx1) (by simp [q]) rfl rfl (by simp [q]) (.cons (.free (freeL_encs fr77 _)) (.cons (.free (by simp [free, fr1])) (.nil))) rfl ?_
  rintro _ rfl
  apply eY 4; simp [q]
  obtain rfl := sj h
  exact (hF hr (by simp [q]) rfl).1
theorem ok_aev_AFun_1 (F : Nat) (a0 : AFun) (φ1 : AFun → Option Bool) (g1 : FuncId) (first1 caps1 : List AV) (fr1 : freeL first1 = true ∧ freeL caps1 = true) (hφ1 : ∀ y0 r, φ1 y0 = some r → RunF Tryz.prog T.T g1 (first1 ++ [.agg (c77 y0)] ++ caps1) (.sc (.bool r))) (r : Bool) (h : aev_AFun_1 F a0 φ1 = some r) : RunF Tryz.prog T.T 106 [.agg (c77 a0), .sh [.fn (.func g1) first1 caps1]] (.sc (.bool r)) := by
  rw [aev_AFun_1] at h
  refine RunF.z Tryz.func106 rfl rfl rfl rfl rfl (fun C hr => ?_)
  refine gn (fun t H n => t 0 = .agg (c77 a0) ∧ t 1 = .sh [.fn (.func g1) first1 caps1]) ⟨by simp, by simp⟩ fun t H n q => ?_
  apply eY 2; simp [q]
  refine gn (fun t H n => t 0 = .agg (c77 a0) ∧ t 1 = .sh [.fn (.func g1) first1 caps1]) (by simp [q]) fun t H n q => ?_
  refine Stk.om (mop_box T.t77 (cs := c77 a0) (by show partOk (t 0) = true; rw [q.1]; rfl) (by show cellsOf (t 0) = _; rw [q.1]; rfl)) (by simp [q]) rfl (fun t' ht' => ?_)
  refine gn (fun t H n => ∃ b1, t 1 = .sh [.fn (.func g1) first1 caps1] ∧ t 2 = .own b1 0 ∧ H b1 = some (.cells (c77 a0) 77) ∧ b1 < n) ⟨n, j2 (by simp [ht', q]) ⟨upd_same _ _ _, Nat.lt_succ_self _⟩⟩ fun t H n ⟨b1, q⟩ => ?_
  obtain ⟨x2, hx2, h⟩ := bnd h
  apply eY 6; simp [q, ldF78, ld_77_0_77]
  refine Stk.cv (g := g1) (first := first1) (caps := caps1) (args := first1 ++ [.agg (c77 a0)] ++ caps1) (args' := first1 ++ [.agg (c77 a0)] ++ caps1) (v := .sc (.bool x2)) [] (hφ1 _ _ hx2) (by simp [q, ldF78, ld_77_0_77]) rfl (by simp [q, ldF78, ld_77_0_77]) (by simp [q, ldF78, ld_77_0_77]) (viewL_mid (x := [.agg (c77 a0)]) (y := [.agg (c77 a0)]) fr1.1 fr1.2 (.cons (.free (fr77 _)) (.nil))) (.inl ⟨rfl, rfl⟩) ?_
  rintro _ rfl
  apply eY 4; simp [q, ldF78, ld_77_0_77]
  obtain rfl := sj h
  exact (hF hr (by simp [q, ldF78, ld_77_0_77]) rfl).1
@[simp] abbrev Q10_3 (a0 : (List AFun)) (a1 : Int) (a2 : Int) (t : Nat → AV) : Prop := t 0 = .ssl (encs c77 a0) a0.length false ∧ t 1 = .sc (.int .i64 a1) ∧ t 2 = .sc (.int .i64 a2)
theorem ok_aev_AFun (F : Nat) (a0 : (List AFun)) (a1 : Int) (a2 : Int) (φ3 : AFun → Option Bool) (g3 : FuncId) (first3 caps3 : List AV) (fr3 : freeL first3 = true ∧ freeL caps3 = true) (hφ3 : ∀ y0 r, φ3 y0 = some r → RunF Tryz.prog T.T g3 (first3 ++ [.agg (c77 y0)] ++ caps3) (.sc (.bool r))) (r : Bool) (h : aev_AFun F a0 a1 a2 φ3 = some r) : RunF Tryz.prog T.T 39 [.ssl (encs c77 a0) a0.length false, .sc (.int .i64 a1), .sc (.int .i64 a2), .fn (.func g3) first3 caps3] (.sc (.bool r)) := by
  rw [aev_AFun] at h
  refine RunF.z Tryz.func39 rfl rfl rfl rfl rfl (fun C hr => ?_)
  refine gn (fun t H n => Q10_3 a0 a1 a2 t ∧ t 3 = .fn (.func g3) first3 caps3) ⟨⟨by simp, by simp, by simp⟩, by simp⟩ fun t H n q => ?_
  apply eY 2; simp [q]
  refine gn (fun t H n => Q10_3 a0 a1 a2 t ∧ t 3 = .fn (.func g3) first3 caps3) (by simp [q]) fun t H n q => ?_
  refine Stk.om (mop_box T.t78 (cs := [.fn (.func g3) first3 caps3]) (by show partOk (t 3) = true; rw [q.2]; rfl) (by show cellsOf (t 3) = _; rw [q.2]; rfl)) (by simp [q]) rfl (fun t' ht' => ?_)
  refine gn (fun t H n => ∃ b1, Q10_3 a0 a1 a2 t ∧ t 7 = .own b1 0 ∧ H b1 = some (.cells ([.fn (.func g3) first3 caps3]) 78) ∧ b1 < n) ⟨n, j2 (by simp [ht', q]) ⟨upd_same _ _ _, Nat.lt_succ_self _⟩⟩ fun t H n ⟨b1, ⟨f0, f1, f2⟩, f7, b_b1, l_b1⟩ => ?_
  apply eY 9; simp [f0, f1, f2, f7, b_b1]
  refine Stk.gd 5 13 18 (fun z => .sc (.bool (z && (decide ((a0.length : Int) ≤ a2))))) (w := decide (a1 ≤ (a0.length : Int))) (by simp [f0, f1, f2, f7, b_b1]) (by simp [f0, f1, f2, f7, b_b1]) (by simp [f0, f1, f2, f7, b_b1]) ?_; simp [f0, f1, f2, f7, b_b1]
  apply eY 1; simp [f0, f1, f2, f7, b_b1]
  refine gn (fun t H n => t 0 = .ssl (encs c77 a0) a0.length false ∧ t 7 = .own b1 0 ∧ t 19 = .sc (.bool ((decide (a1 ≤ (a0.length : Int))) && (decide ((a0.length : Int) ≤ a2)))) ∧ H b1 = some (.cells ([.fn (.func g3) first3 caps3]) 78) ∧ b1 < n) (by and_intros <;> first | assumption | simp [f0, f1, f2, f7, b_b1]) fun t H n q => ?_
  obtain ⟨K1, hK1, h⟩ := jnd h
  refine Stk.jo 5 (fun t H n => ∃ v2 : Bool, K1 v2 = some r ∧ t 24 = .sc (.bool v2)) (fun J1 hJ1 => ?_) ?_
  · rcases Bool.eq_false_or_eq_true ((decide (a1 ≤ (a0.length : Int))) && (decide ((a0.length : Int) ≤ a2))) with hb1 | hb1
    · obtain ⟨f0, f7, f19, b_b1, l_b1⟩ := q
      rw [hb1] at f19
      replace h := cT hb1 h
      obtain ⟨x3, hx3, h⟩ := bnd h
      apply eY 2; simp [f0, f7, f19, b_b1]
      refine Stk.cv (g := 105) (args := [.ssl (encs c77 a0) a0.length false, .fn (.func 106) [] [.own b1 0]]) (args' := [.ssl (encs c77 a0) a0.length false, .fn (.func 106) [] [.sh [.fn (.func g3) first3 caps3]]]) (v := .sc (.bool x3)) [b1] (ok_sCtFun F _ _ 106 [] [.sh [.fn (.func g3) first3 caps3]] (by and_intros <;> first | assumption | simp [freeL, free, fr3]) (fun y0 r h => ok_aev_AFun_1 F y0 _ _ _ _ fr3 hφ3 r h) _ hx3) (by simp [f0, f7, f19, b_b1]) rfl rfl (by simp [f0, f7, f19, b_b1]) (.cons (.free (freeL_encs fr77 _)) (.cons (.fn .nil (.cons (view_blk b_b1 (by simp) (by simp [freeL, free, fr3])) (.nil))) (.nil))) (.inr rfl) ?_
      rintro _ rfl
      apply eY 3; simp [f0, f7, f19, b_b1]
      exact l0 (hJ1 _ _ _ ⟨(!x3), h, by simp [f0, f7, f19, b_b1]⟩)
    · obtain ⟨f0, f7, f19, b_b1, l_b1⟩ := q
      rw [hb1] at f19
      replace h := cF hb1 h
      apply eY 6; simp [f0, f7, f19, b_b1]
      exact l0 (hJ1 _ _ _ ⟨false, h, by simp [f0, f7, f19, b_b1]⟩)
  clear q h
  rintro t H n ⟨v2, h, q⟩
  subst hK1
  apply eY 3; simp [q]
  obtain rfl := sj h
  exact (hF hr (by simp [q]) rfl).1
theorem ok_sIxParam (F : Nat) (a0 : (List AParam)) (φ1 : AParam → Option Bool) (g1 : FuncId) (first1 caps1 : List AV) (fr1 : freeL first1 = true ∧ freeL caps1 = true) (hφ1 : ∀ y0 r, φ1 y0 = some r → RunF Tryz.prog T.T g1 (first1 ++ [.agg (c81 y0)] ++ caps1) (.sc (.bool r))) (r : Int) (h : sIxParam F a0 φ1 = some r) : RunF Tryz.prog T.T 195 [.ssl (encs c81 a0) a0.length false, .fn (.func g1) first1 caps1] (.sc (.int .i64 r)) := by
  rw [sIxParam] at h
  refine RunF.z Tryz.func195 rfl rfl rfl rfl rfl (fun C hr => ?_)
  refine gn (fun t H n => t 0 = .ssl (encs c81 a0) a0.length false ∧ t 1 = .fn (.func g1) first1 caps1) ⟨by simp, by simp⟩ fun t H n q => ?_
  apply eY 12; simp [q]
  refine gn (fun t H n => t 0 = .ssl (encs c81 a0) a0.length false ∧ t 1 = .fn (.func g1) first1 caps1 ∧ t 7 = .sc (.int .i64 (a0.length : Int)) ∧ t 8 = .sc (.int .i64 0)) (by simp [q]) fun t H n q => ?_
  refine Stk.lo (fun μ t H n => ∃ v1 : Int, sIxParam_L0 F a0 φ1 μ v1 = some r ∧ t 0 = .ssl (encs c81 a0) a0.length false ∧ t 1 = .fn (.func g1) first1 caps1 ∧ t 7 = .sc (.int .i64 (a0.length : Int)) ∧ t 8 = .sc (.int .i64 v1)) F ⟨0, h, q⟩ ?_
  clear q h
  rintro J1 hJ1 μ t H n ⟨v1, h, q⟩
  cases μ with
  | zero => exact absurd h (by simp [sIxParam_L0])
  | succ μ =>
  rw [sIxParam_L0] at h
  apply eY 5; simp [q]
  refine cd (decide (v1 < (a0.length : Int))) (by simp [q]) (fun hb3 => ?_) (fun hb3 => ?_)
  ·have h := cT hb3 h
   obtain ⟨x4, hx4, h⟩ := bnd h
   obtain ⟨i0x4, i1x4, i2x4, _⟩ := idx_ok hx4
   have ex4_0_81 : partOf T.T 81 (encs c81 a0) (v1.toNat * 4) = some (.agg (c81 x4)) := (part_elem0 (e := c81) (z := 4) (ty := 81) T.t81 (by decide) (by decide) hx4 0 (by decide)).trans (ld_81_0_81 _)
   obtain ⟨x5, hx5, h⟩ := bnd h
   apply eY 15; simp [q, i0x4, i1x4, pd81, ex4_0_81]
   refine Stk.cv (g := g1) (first := first1) (caps := caps1) (args := first1 ++ [.agg (c81 x4)] ++ caps1) (args' := first1 ++ [.agg (c81 x4)] ++ caps1) (v := .sc (.bool x5)) [] (hφ1 _ _ hx5) (by simp [q, i0x4, i1x4, pd81, ex4_0_81]) rfl (by simp [q, i0x4, i1x4, pd81, ex4_0_81]) (by simp [q, i0x4, i1x4, pd81, ex4_0_81]) (viewL_mid (x := [.agg (c81 x4)]) (y := [.agg (c81 x4)]) fr1.1 fr1.2 (.cons (.free (fr81 _)) (.nil))) (.inl ⟨rfl, rfl⟩) ?_
   rintro _ rfl
   apply eY 1; simp [q, i0x4, i1x4, pd81, ex4_0_81]
   refine cd x5 (by simp [q, i0x4, i1x4, pd81, ex4_0_81]) (fun hb6 => ?_) (fun hb6 => ?_)
   ·have h := cT hb6 h
    apply eY 6; simp [q, i0x4, i1x4, pd81, ex4_0_81]
    obtain rfl := sj h
    exact (hF hr (by simp [q, i0x4, i1x4, pd81, ex4_0_81]) rfl).1
   ·have h := cF hb6 h
    apply eY 6; simp [q, i0x4, i1x4, pd81, ex4_0_81]
    exact lm (hJ1 _ _ _ _ ⟨(IntKind.i64.wrap (v1 + 1)), h, by simp [q, i0x4, i1x4, pd81, ex4_0_81]⟩)
  ·have h := cF hb3 h
   refine Stk.ex rfl ?_
   apply eY 5; simp [q]
   obtain rfl := sj h
   exact (hF hr (by simp [q]) rfl).1
theorem ok_sCtParam (F : Nat) (a0 : (List AParam)) (φ1 : AParam → Option Bool) (g1 : FuncId) (first1 caps1 : List AV) (fr1 : freeL first1 = true ∧ freeL caps1 = true) (hφ1 : ∀ y0 r, φ1 y0 = some r → RunF Tryz.prog T.T g1 (first1 ++ [.agg (c81 y0)] ++ caps1) (.sc (.bool r))) (r : Bool) (h : sCtParam F a0 φ1 = some r) : RunF Tryz.prog T.T 169 [.ssl (encs c81 a0) a0.length false, .fn (.func g1) first1 caps1] (.sc (.bool r)) := by
  rw [sCtParam] at h
  refine RunF.z Tryz.func169 rfl rfl rfl rfl rfl (fun C hr => ?_)
  refine gn (fun t H n => t 0 = .ssl (encs c81 a0) a0.length false ∧ t 1 = .fn (.func g1) first1 caps1) ⟨by simp, by simp⟩ fun t H n q => ?_
  obtain ⟨x1, hx1, h⟩ := bnd h
  apply eY 8; simp [q]
  refine cw (ok_sIxParam F _ _ _ _ _ fr1 hφ1 _ hx1) (by simp [q]) rfl rfl (by simp [q]) (.cons (.free (freeL_encs fr81 _)) (.cons (.free (by simp [free, fr1])) (.nil))) rfl ?_
  rintro _ rfl
  apply eY 4; simp [q]
  obtain rfl := sj h
  exact (hF hr (by simp [q]) rfl).1
theorem ok_aev_AParam_1 (F : Nat) (a0 : AParam) (φ1 : AParam → Option Bool) (g1 : FuncId) (first1 caps1 : List AV) (fr1 : freeL first1 = true ∧ freeL caps1 = true) (hφ1 : ∀ y0 r, φ1 y0 = some r → RunF Tryz.prog T.T g1 (first1 ++ [.agg (c81 y0)] ++ caps1) (.sc (.bool r))) (r : Bool) (h : aev_AParam_1 F a0 φ1 = some r) : RunF Tryz.prog T.T 170 [.agg (c81 a0), .sh [.fn (.func g1) first1 caps1]] (.sc (.bool r)) := by
  rw [aev_AParam_1] at h
  refine RunF.z Tryz.func170 rfl rfl rfl rfl rfl (fun C hr => ?_)
  refine gn (fun t H n => t 0 = .agg (c81 a0) ∧ t 1 = .sh [.fn (.func g1) first1 caps1]) ⟨by simp, by simp⟩ fun t H n q => ?_
  apply eY 2; simp [q]
  refine gn (fun t H n => t 0 = .agg (c81 a0) ∧ t 1 = .sh [.fn (.func g1) first1 caps1]) (by simp [q]) fun t H n q => ?_
  refine Stk.om (mop_box T.t81 (cs := c81 a0) (by show partOk (t 0) = true; rw [q.1]; rfl) (by show cellsOf (t 0) = _; rw [q.1]; rfl)) (by simp [q]) rfl (fun t' ht' => ?_)
  refine gn (fun t H n => ∃ b1, t 1 = .sh [.fn (.func g1) first1 caps1] ∧ t 2 = .own b1 0 ∧ H b1 = some (.cells (c81 a0) 81) ∧ b1 < n) ⟨n, j2 (by simp [ht', q]) ⟨upd_same _ _ _, Nat.lt_succ_self _⟩⟩ fun t H n ⟨b1, q⟩ => ?_
  obtain ⟨x2, hx2, h⟩ := bnd h
  apply eY 6; simp [q, ldF86, ld_81_0_81]
  refine Stk.cv (g := g1) (first := first1) (caps := caps1) (args := first1 ++ [.agg (c81 a0)] ++ caps1) (args' := first1 ++ [.agg (c81 a0)] ++ caps1) (v := .sc (.bool x2)) [] (hφ1 _ _ hx2) (by simp [q, ldF86, ld_81_0_81]) rfl (by simp [q, ldF86, ld_81_0_81]) (by simp [q, ldF86, ld_81_0_81]) (viewL_mid (x := [.agg (c81 a0)]) (y := [.agg (c81 a0)]) fr1.1 fr1.2 (.cons (.free (fr81 _)) (.nil))) (.inl ⟨rfl, rfl⟩) ?_
  rintro _ rfl
  apply eY 4; simp [q, ldF86, ld_81_0_81]
  obtain rfl := sj h
  exact (hF hr (by simp [q, ldF86, ld_81_0_81]) rfl).1
@[simp] abbrev Q10_4 (a0 : (List AParam)) (a1 : Int) (a2 : Int) (t : Nat → AV) : Prop := t 0 = .ssl (encs c81 a0) a0.length false ∧ t 1 = .sc (.int .i64 a1) ∧ t 2 = .sc (.int .i64 a2)
theorem ok_aev_AParam (F : Nat) (a0 : (List AParam)) (a1 : Int) (a2 : Int) (φ3 : AParam → Option Bool) (g3 : FuncId) (first3 caps3 : List AV) (fr3 : freeL first3 = true ∧ freeL caps3 = true) (hφ3 : ∀ y0 r, φ3 y0 = some r → RunF Tryz.prog T.T g3 (first3 ++ [.agg (c81 y0)] ++ caps3) (.sc (.bool r))) (r : Bool) (h : aev_AParam F a0 a1 a2 φ3 = some r) : RunF Tryz.prog T.T 108 [.ssl (encs c81 a0) a0.length false, .sc (.int .i64 a1), .sc (.int .i64 a2), .fn (.func g3) first3 caps3] (.sc (.bool r)) := by
  rw [aev_AParam] at h
  refine RunF.z Tryz.func108 rfl rfl rfl rfl rfl (fun C hr => ?_)
  refine gn (fun t H n => Q10_4 a0 a1 a2 t ∧ t 3 = .fn (.func g3) first3 caps3) ⟨⟨by simp, by simp, by simp⟩, by simp⟩ fun t H n q => ?_
  apply eY 2; simp [q]
  refine gn (fun t H n => Q10_4 a0 a1 a2 t ∧ t 3 = .fn (.func g3) first3 caps3) (by simp [q]) fun t H n q => ?_
  refine Stk.om (mop_box T.t86 (cs := [.fn (.func g3) first3 caps3]) (by show partOk (t 3) = true; rw [q.2]; rfl) (by show cellsOf (t 3) = _; rw [q.2]; rfl)) (by simp [q]) rfl (fun t' ht' => ?_)
  refine gn (fun t H n => ∃ b1, Q10_4 a0 a1 a2 t ∧ t 7 = .own b1 0 ∧ H b1 = some (.cells ([.fn (.func g3) first3 caps3]) 86) ∧ b1 < n) ⟨n, j2 (by simp [ht', q]) ⟨upd_same _ _ _, Nat.lt_succ_self _⟩⟩ fun t H n ⟨b1, ⟨f0, f1, f2⟩, f7, b_b1, l_b1⟩ => ?_
  apply eY 9; simp [f0, f1, f2, f7, b_b1]
  refine Stk.gd 5 13 18 (fun z => .sc (.bool (z && (decide ((a0.length : Int) ≤ a2))))) (w := decide (a1 ≤ (a0.length : Int))) (by simp [f0, f1, f2, f7, b_b1]) (by simp [f0, f1, f2, f7, b_b1]) (by simp [f0, f1, f2, f7, b_b1]) ?_; simp [f0, f1, f2, f7, b_b1]
  apply eY 1; simp [f0, f1, f2, f7, b_b1]
  refine gn (fun t H n => t 0 = .ssl (encs c81 a0) a0.length false ∧ t 7 = .own b1 0 ∧ t 19 = .sc (.bool ((decide (a1 ≤ (a0.length : Int))) && (decide ((a0.length : Int) ≤ a2)))) ∧ H b1 = some (.cells ([.fn (.func g3) first3 caps3]) 86) ∧ b1 < n) (by and_intros <;> first | assumption | simp [f0, f1, f2, f7, b_b1]) fun t H n q => ?_
  obtain ⟨K1, hK1, h⟩ := jnd h
  refine Stk.jo 5 (fun t H n => ∃ v2 : Bool, K1 v2 = some r ∧ t 24 = .sc (.bool v2)) (fun J1 hJ1 => ?_) ?_
  · rcases Bool.eq_false_or_eq_true ((decide (a1 ≤ (a0.length : Int))) && (decide ((a0.length : Int) ≤ a2))) with hb1 | hb1
    · obtain ⟨f0, f7, f19, b_b1, l_b1⟩ := q
      rw [hb1] at f19
      replace h := cT hb1 h
      obtain ⟨x3, hx3, h⟩ := bnd h
      apply eY 2; simp [f0, f7, f19, b_b1]
      refine Stk.cv (g := 169) (args := [.ssl (encs c81 a0) a0.length false, .fn (.func 170) [] [.own b1 0]]) (args' := [.ssl (encs c81 a0) a0.length false, .fn (.func 170) [] [.sh [.fn (.func g3) first3 caps3]]]) (v := .sc (.bool x3)) [b1] (ok_sCtParam F _ _ 170 [] [.sh [.fn (.func g3) first3 caps3]] (by and_intros <;> first | assumption | simp [freeL, free, fr3]) (fun y0 r h => ok_aev_AParam_1 F y0 _ _ _ _ fr3 hφ3 r h) _ hx3) (by simp [f0, f7, f19, b_b1]) rfl rfl (by simp [f0, f7, f19, b_b1]) (.cons (.free (freeL_encs fr81 _)) (.cons (.fn .nil (.cons (view_blk b_b1 (by simp) (by simp [freeL, free, fr3])) (.nil))) (.nil))) (.inr rfl) ?_
      rintro _ rfl
      apply eY 3; simp [f0, f7, f19, b_b1]
      exact l0 (hJ1 _ _ _ ⟨(!x3), h, by simp [f0, f7, f19, b_b1]⟩)
    · obtain ⟨f0, f7, f19, b_b1, l_b1⟩ := q
      rw [hb1] at f19
      replace h := cF hb1 h
      apply eY 6; simp [f0, f7, f19, b_b1]
      exact l0 (hJ1 _ _ _ ⟨false, h, by simp [f0, f7, f19, b_b1]⟩)
  clear q h
  rintro t H n ⟨v2, h, q⟩
  subst hK1
  apply eY 3; simp [q]
  obtain rfl := sj h
  exact (hF hr (by simp [q]) rfl).1
theorem ok_ast_fitParam (F : Nat) (a0 : AParam) (r : Bool) (h : ast_fitParam F a0 = some r) : RunF Tryz.prog T.T 109 [.agg (c81 a0)] (.sc (.bool r)) := by
  rw [ast_fitParam] at h
  refine RunF.z Tryz.func109 rfl rfl rfl rfl rfl (fun C hr => ?_)
  refine gn (fun t H n => t 0 = .agg (c81 a0)) (by simp) fun t H n q => ?_
  apply eY 2; simp [q]
  refine gn (fun t H n => t 0 = .agg (c81 a0)) (by simp [q]) fun t H n q => ?_
  refine Stk.om (mop_box T.t81 (cs := c81 a0) (by show partOk (t 0) = true; rw [q]; rfl) (by show cellsOf (t 0) = _; rw [q]; rfl)) (by simp [q]) rfl (fun t' ht' => ?_)
  refine gn (fun t H n => ∃ b1, t 1 = .own b1 0 ∧ H b1 = some (.cells (c81 a0) 81) ∧ b1 < n) ⟨n, by simp [ht'], upd_same _ _ _, Nat.lt_succ_self _⟩ fun t H n ⟨b1, q⟩ => ?_
  obtain ⟨x2, hx2, h⟩ := bnd h
  apply eY 6; simp [q, ld_81_0_9]
  refine cw (ok_ast_small F _ _ hx2) (by simp [q, ld_81_0_9]) rfl rfl (by simp [q, ld_81_0_9]) (.cons (.free (rfl)) (.nil)) rfl ?_
  rintro _ rfl
  apply eY 1; simp [q, ld_81_0_9]
  refine gn (fun t H n => t 1 = .own b1 0 ∧ t 6 = .sc (.bool x2) ∧ H b1 = some (.cells (c81 a0) 81) ∧ b1 < n) (by simp [q, ld_81_0_9]) fun t H n q => ?_
  obtain ⟨K1, hK1, h⟩ := jnd h
  refine Stk.jo 4 (fun t H n => ∃ v3 : Bool, K1 v3 = some r ∧ t 10 = .sc (.bool v3)) (fun J1 hJ1 => ?_) ?_
  · rcases Bool.eq_false_or_eq_true x2 with hb1 | hb1
    · obtain ⟨f1, f6, b_b1, l_b1⟩ := q
      rw [hb1] at f6
      replace h := cT hb1 h
      obtain ⟨x4, hx4, h⟩ := bnd h
      apply eY 2; simp [f1, f6, b_b1, ld_81_1_26]
      refine cw (ok_ast_FitType F _ _ hx4) (by simp [f1, f6, b_b1, ld_81_1_26]) rfl rfl (by simp [f1, f6, b_b1, ld_81_1_26]) (.cons (.free (fr26 _)) (.nil)) rfl ?_
      rintro _ rfl
      apply eY 2; simp [f1, f6, b_b1, ld_81_1_26]
      exact l0 (hJ1 _ _ _ ⟨x4, h, by simp [f1, f6, b_b1, ld_81_1_26]⟩)
    · obtain ⟨f1, f6, b_b1, l_b1⟩ := q
      rw [hb1] at f6
      replace h := cF hb1 h
      apply eY 5; simp [f1, f6, b_b1]
      exact l0 (hJ1 _ _ _ ⟨false, h, by simp [f1, f6, b_b1]⟩)
  clear q h
  rintro t H n ⟨v3, h, q⟩
  subst hK1
  apply eY 3; simp [q]
  obtain rfl := sj h
  exact (hF hr (by simp [q]) rfl).1
theorem ok_ast_fitFun (F : Nat) (a0 : AFun) (r : Bool) (h : ast_fitFun F a0 = some r) : RunF Tryz.prog T.T 40 [.agg (c77 a0)] (.sc (.bool r)) := by
  rw [ast_fitFun] at h
  refine RunF.z Tryz.func40 rfl rfl rfl rfl rfl (fun C hr => ?_)
  refine gn (fun t H n => t 0 = .agg (c77 a0)) (by simp) fun t H n q => ?_
  apply eY 2; simp [q]
  refine gn (fun t H n => t 0 = .agg (c77 a0)) (by simp [q]) fun t H n q => ?_
  refine Stk.om (mop_box T.t77 (cs := c77 a0) (by show partOk (t 0) = true; rw [q]; rfl) (by show cellsOf (t 0) = _; rw [q]; rfl)) (by simp [q]) rfl (fun t' ht' => ?_)
  refine gn (fun t H n => ∃ b1, t 1 = .own b1 0 ∧ H b1 = some (.cells (c77 a0) 77) ∧ b1 < n) ⟨n, by simp [ht'], upd_same _ _ _, Nat.lt_succ_self _⟩ fun t H n ⟨b1, q⟩ => ?_
  obtain ⟨x2, hx2, h⟩ := bnd h
  apply eY 6; simp [q, ld_77_2_9]
  refine cw (ok_ast_called F _ _ hx2) (by simp [q, ld_77_2_9]) rfl rfl (by simp [q, ld_77_2_9]) (.cons (.free (rfl)) (.nil)) rfl ?_
  rintro _ rfl
  apply eY 1; simp [q, ld_77_2_9]
  refine gn (fun t H n => t 1 = .own b1 0 ∧ t 6 = .sc (.bool x2) ∧ H b1 = some (.cells (c77 a0) 77) ∧ b1 < n) (by simp [q, ld_77_2_9]) fun t H n q => ?_
  obtain ⟨K1, hK1, h⟩ := jnd h
  refine Stk.jo 4 (fun t H n => ∃ v3 : Bool, K1 v3 = some r ∧ t 1 = .own b1 0 ∧ t 10 = .sc (.bool v3) ∧ H b1 = some (.cells (c77 a0) 77) ∧ b1 < n) (fun J1 hJ1 => ?_) ?_
  · rcases Bool.eq_false_or_eq_true x2 with hb1 | hb1
    · obtain ⟨f1, f6, b_b1, l_b1⟩ := q
      rw [hb1] at f6
      replace h := cT hb1 h
      obtain ⟨x4, hx4, h⟩ := bnd h
      apply eY 2; simp [f1, f6, b_b1, ld_77_3_75]
      refine cw (ok_aev_AParam F _ _ _ _ 109 [] [] (by and_intros <;> first | assumption | simp [freeL, free]) (fun y0 r h => ok_ast_fitParam F y0 r h) _ hx4) (by simp [f1, f6, b_b1, ld_77_3_75]) rfl rfl (by simp [f1, f6, b_b1, ld_77_3_75]) (.cons (.free (freeL_encs fr81 _)) (.cons (.free (rfl)) (.cons (.free (rfl)) (.cons (.fn .nil (.nil)) (.nil))))) rfl ?_
      rintro _ rfl
      apply eY 2; simp [f1, f6, b_b1, ld_77_3_75]
      exact l0 (hJ1 _ _ _ ⟨x4, h, by and_intros <;> first | assumption | simp [f1, f6, b_b1, ld_77_3_75]⟩)
    · obtain ⟨f1, f6, b_b1, l_b1⟩ := q
      rw [hb1] at f6
      replace h := cF hb1 h
      apply eY 5; simp [f1, f6, b_b1]
      exact l0 (hJ1 _ _ _ ⟨false, h, by and_intros <;> first | assumption | simp [f1, f6, b_b1]⟩)
  clear q h
  rintro t H n ⟨v3, h, q⟩
  subst hK1
  apply eY 1; simp [q]
  refine gn (fun t H n => t 1 = .own b1 0 ∧ t 11 = .sc (.bool v3) ∧ H b1 = some (.cells (c77 a0) 77) ∧ b1 < n) (by simp [q]) fun t H n q => ?_
  obtain ⟨K2, hK2, h⟩ := jnd h
  refine Stk.jo 4 (fun t H n => ∃ v5 : Bool, K2 v5 = some r ∧ t 1 = .own b1 0 ∧ t 15 = .sc (.bool v5) ∧ H b1 = some (.cells (c77 a0) 77) ∧ b1 < n) (fun J2 hJ2 => ?_) ?_
  · rcases Bool.eq_false_or_eq_true v3 with hb2 | hb2
    · obtain ⟨f1, f11, b_b1, l_b1⟩ := q
      rw [hb2] at f11
      replace h := cT hb2 h
      obtain ⟨x6, hx6, h⟩ := bnd h
      apply eY 2; simp [f1, f11, b_b1, ld_77_4_26]
      refine cw (ok_ast_FitType F _ _ hx6) (by simp [f1, f11, b_b1, ld_77_4_26]) rfl rfl (by simp [f1, f11, b_b1, ld_77_4_26]) (.cons (.free (fr26 _)) (.nil)) rfl ?_
      rintro _ rfl
      apply eY 2; simp [f1, f11, b_b1, ld_77_4_26]
      exact l0 (hJ2 _ _ _ ⟨x6, h, by and_intros <;> first | assumption | simp [f1, f11, b_b1, ld_77_4_26]⟩)
    · obtain ⟨f1, f11, b_b1, l_b1⟩ := q
      rw [hb2] at f11
      replace h := cF hb2 h
      apply eY 5; simp [f1, f11, b_b1]
      exact l0 (hJ2 _ _ _ ⟨false, h, by and_intros <;> first | assumption | simp [f1, f11, b_b1]⟩)
  clear q h
  rintro t H n ⟨v5, h, q⟩
  subst hK2
  apply eY 1; simp [q]
  refine gn (fun t H n => t 1 = .own b1 0 ∧ t 16 = .sc (.bool v5) ∧ H b1 = some (.cells (c77 a0) 77) ∧ b1 < n) (by simp [q]) fun t H n q => ?_
  obtain ⟨K3, hK3, h⟩ := jnd h
  refine Stk.jo 4 (fun t H n => ∃ v7 : Bool, K3 v7 = some r ∧ t 20 = .sc (.bool v7)) (fun J3 hJ3 => ?_) ?_
  · rcases Bool.eq_false_or_eq_true v5 with hb3 | hb3
    · obtain ⟨f1, f16, b_b1, l_b1⟩ := q
      rw [hb3] at f16
      replace h := cT hb3 h
      obtain ⟨x8, hx8, h⟩ := bnd h
      apply eY 2; simp [f1, f16, b_b1, ld_77_7_33]
      refine cw (ok_ast_FitExpr F _ _ hx8) (by simp [f1, f16, b_b1, ld_77_7_33]) rfl rfl (by simp [f1, f16, b_b1, ld_77_7_33]) (.cons (.free (fr33 _)) (.nil)) rfl ?_
      rintro _ rfl
      apply eY 2; simp [f1, f16, b_b1, ld_77_7_33]
      exact l0 (hJ3 _ _ _ ⟨x8, h, by simp [f1, f16, b_b1, ld_77_7_33]⟩)
    · obtain ⟨f1, f16, b_b1, l_b1⟩ := q
      rw [hb3] at f16
      replace h := cF hb3 h
      apply eY 5; simp [f1, f16, b_b1]
      exact l0 (hJ3 _ _ _ ⟨false, h, by simp [f1, f16, b_b1]⟩)
  clear q h
  rintro t H n ⟨v7, h, q⟩
  subst hK3
  apply eY 3; simp [q]
  obtain rfl := sj h
  exact (hF hr (by simp [q]) rfl).1
theorem ok_sIxHand (F : Nat) (a0 : (List AHand)) (φ1 : AHand → Option Bool) (g1 : FuncId) (first1 caps1 : List AV) (fr1 : freeL first1 = true ∧ freeL caps1 = true) (hφ1 : ∀ y0 r, φ1 y0 = some r → RunF Tryz.prog T.T g1 (first1 ++ [.agg (c83 y0)] ++ caps1) (.sc (.bool r))) (r : Int) (h : sIxHand F a0 φ1 = some r) : RunF Tryz.prog T.T 171 [.ssl (encs c83 a0) a0.length false, .fn (.func g1) first1 caps1] (.sc (.int .i64 r)) := by
  rw [sIxHand] at h
  refine RunF.z Tryz.func171 rfl rfl rfl rfl rfl (fun C hr => ?_)
  refine gn (fun t H n => t 0 = .ssl (encs c83 a0) a0.length false ∧ t 1 = .fn (.func g1) first1 caps1) ⟨by simp, by simp⟩ fun t H n q => ?_
  apply eY 12; simp [q]
  refine gn (fun t H n => t 0 = .ssl (encs c83 a0) a0.length false ∧ t 1 = .fn (.func g1) first1 caps1 ∧ t 7 = .sc (.int .i64 (a0.length : Int)) ∧ t 8 = .sc (.int .i64 0)) (by simp [q]) fun t H n q => ?_
  refine Stk.lo (fun μ t H n => ∃ v1 : Int, sIxHand_L0 F a0 φ1 μ v1 = some r ∧ t 0 = .ssl (encs c83 a0) a0.length false ∧ t 1 = .fn (.func g1) first1 caps1 ∧ t 7 = .sc (.int .i64 (a0.length : Int)) ∧ t 8 = .sc (.int .i64 v1)) F ⟨0, h, q⟩ ?_
  clear q h
  rintro J1 hJ1 μ t H n ⟨v1, h, q⟩
  cases μ with
  | zero => exact absurd h (by simp [sIxHand_L0])
  | succ μ =>
  rw [sIxHand_L0] at h
  apply eY 5; simp [q]
  refine cd (decide (v1 < (a0.length : Int))) (by simp [q]) (fun hb3 => ?_) (fun hb3 => ?_)
  ·have h := cT hb3 h
   obtain ⟨x4, hx4, h⟩ := bnd h
   obtain ⟨i0x4, i1x4, i2x4, _⟩ := idx_ok hx4
   have ex4_0_83 : partOf T.T 83 (encs c83 a0) (v1.toNat * 16) = some (.agg (c83 x4)) := (part_elem0 (e := c83) (z := 16) (ty := 83) T.t83 (by decide) (by decide) hx4 0 (by decide)).trans (ld_83_0_83 _)
   obtain ⟨x5, hx5, h⟩ := bnd h
   apply eY 15; simp [q, i0x4, i1x4, pd83, ex4_0_83]
   refine Stk.cv (g := g1) (first := first1) (caps := caps1) (args := first1 ++ [.agg (c83 x4)] ++ caps1) (args' := first1 ++ [.agg (c83 x4)] ++ caps1) (v := .sc (.bool x5)) [] (hφ1 _ _ hx5) (by simp [q, i0x4, i1x4, pd83, ex4_0_83]) rfl (by simp [q, i0x4, i1x4, pd83, ex4_0_83]) (by simp [q, i0x4, i1x4, pd83, ex4_0_83]) (viewL_mid (x := [.agg (c83 x4)]) (y := [.agg (c83 x4)]) fr1.1 fr1.2 (.cons (.free (fr83 _)) (.nil))) (.inl ⟨rfl, rfl⟩) ?_
   rintro _ rfl
   apply eY 1; simp [q, i0x4, i1x4, pd83, ex4_0_83]
   refine cd x5 (by simp [q, i0x4, i1x4, pd83, ex4_0_83]) (fun hb6 => ?_) (fun hb6 => ?_)
   ·have h := cT hb6 h
    apply eY 6; simp [q, i0x4, i1x4, pd83, ex4_0_83]
    obtain rfl := sj h
    exact (hF hr (by simp [q, i0x4, i1x4, pd83, ex4_0_83]) rfl).1
   ·have h := cF hb6 h
    apply eY 6; simp [q, i0x4, i1x4, pd83, ex4_0_83]
    exact lm (hJ1 _ _ _ _ ⟨(IntKind.i64.wrap (v1 + 1)), h, by simp [q, i0x4, i1x4, pd83, ex4_0_83]⟩)
  ·have h := cF hb3 h
   refine Stk.ex rfl ?_
   apply eY 5; simp [q]
   obtain rfl := sj h
   exact (hF hr (by simp [q]) rfl).1
theorem ok_sCtHand (F : Nat) (a0 : (List AHand)) (φ1 : AHand → Option Bool) (g1 : FuncId) (first1 caps1 : List AV) (fr1 : freeL first1 = true ∧ freeL caps1 = true) (hφ1 : ∀ y0 r, φ1 y0 = some r → RunF Tryz.prog T.T g1 (first1 ++ [.agg (c83 y0)] ++ caps1) (.sc (.bool r))) (r : Bool) (h : sCtHand F a0 φ1 = some r) : RunF Tryz.prog T.T 110 [.ssl (encs c83 a0) a0.length false, .fn (.func g1) first1 caps1] (.sc (.bool r)) := by
  rw [sCtHand] at h
  refine RunF.z Tryz.func110 rfl rfl rfl rfl rfl (fun C hr => ?_)
  refine gn (fun t H n => t 0 = .ssl (encs c83 a0) a0.length false ∧ t 1 = .fn (.func g1) first1 caps1) ⟨by simp, by simp⟩ fun t H n q => ?_
  obtain ⟨x1, hx1, h⟩ := bnd h
  apply eY 8; simp [q]
  refine cw (ok_sIxHand F _ _ _ _ _ fr1 hφ1 _ hx1) (by simp [q]) rfl rfl (by simp [q]) (.cons (.free (freeL_encs fr83 _)) (.cons (.free (by simp [free, fr1])) (.nil))) rfl ?_
  rintro _ rfl
  apply eY 4; simp [q]
  obtain rfl := sj h
  exact (hF hr (by simp [q]) rfl).1
theorem ok_aev_AHand_1 (F : Nat) (a0 : AHand) (φ1 : AHand → Option Bool) (g1 : FuncId) (first1 caps1 : List AV) (fr1 : freeL first1 = true ∧ freeL caps1 = true) (hφ1 : ∀ y0 r, φ1 y0 = some r → RunF Tryz.prog T.T g1 (first1 ++ [.agg (c83 y0)] ++ caps1) (.sc (.bool r))) (r : Bool) (h : aev_AHand_1 F a0 φ1 = some r) : RunF Tryz.prog T.T 111 [.agg (c83 a0), .sh [.fn (.func g1) first1 caps1]] (.sc (.bool r)) := by
  rw [aev_AHand_1] at h
  refine RunF.z Tryz.func111 rfl rfl rfl rfl rfl (fun C hr => ?_)
  refine gn (fun t H n => t 0 = .agg (c83 a0) ∧ t 1 = .sh [.fn (.func g1) first1 caps1]) ⟨by simp, by simp⟩ fun t H n q => ?_
  apply eY 2; simp [q]
  refine gn (fun t H n => t 0 = .agg (c83 a0) ∧ t 1 = .sh [.fn (.func g1) first1 caps1]) (by simp [q]) fun t H n q => ?_
  refine Stk.om (mop_box T.t83 (cs := c83 a0) (by show partOk (t 0) = true; rw [q.1]; rfl) (by show cellsOf (t 0) = _; rw [q.1]; rfl)) (by simp [q]) rfl (fun t' ht' => ?_)
  refine gn (fun t H n => ∃ b1, t 1 = .sh [.fn (.func g1) first1 caps1] ∧ t 2 = .own b1 0 ∧ H b1 = some (.cells (c83 a0) 83) ∧ b1 < n) ⟨n, j2 (by simp [ht', q]) ⟨upd_same _ _ _, Nat.lt_succ_self _⟩⟩ fun t H n ⟨b1, q⟩ => ?_
  obtain ⟨x2, hx2, h⟩ := bnd h
  apply eY 6; simp [q, ldF84, ld_83_0_83]
  refine Stk.cv (g := g1) (first := first1) (caps := caps1) (args := first1 ++ [.agg (c83 a0)] ++ caps1) (args' := first1 ++ [.agg (c83 a0)] ++ caps1) (v := .sc (.bool x2)) [] (hφ1 _ _ hx2) (by simp [q, ldF84, ld_83_0_83]) rfl (by simp [q, ldF84, ld_83_0_83]) (by simp [q, ldF84, ld_83_0_83]) (viewL_mid (x := [.agg (c83 a0)]) (y := [.agg (c83 a0)]) fr1.1 fr1.2 (.cons (.free (fr83 _)) (.nil))) (.inl ⟨rfl, rfl⟩) ?_
  rintro _ rfl
  apply eY 4; simp [q, ldF84, ld_83_0_83]
  obtain rfl := sj h
  exact (hF hr (by simp [q, ldF84, ld_83_0_83]) rfl).1
@[simp] abbrev Q10_5 (a0 : (List AHand)) (a1 : Int) (a2 : Int) (t : Nat → AV) : Prop := t 0 = .ssl (encs c83 a0) a0.length false ∧ t 1 = .sc (.int .i64 a1) ∧ t 2 = .sc (.int .i64 a2)
theorem ok_aev_AHand (F : Nat) (a0 : (List AHand)) (a1 : Int) (a2 : Int) (φ3 : AHand → Option Bool) (g3 : FuncId) (first3 caps3 : List AV) (fr3 : freeL first3 = true ∧ freeL caps3 = true) (hφ3 : ∀ y0 r, φ3 y0 = some r → RunF Tryz.prog T.T g3 (first3 ++ [.agg (c83 y0)] ++ caps3) (.sc (.bool r))) (r : Bool) (h : aev_AHand F a0 a1 a2 φ3 = some r) : RunF Tryz.prog T.T 41 [.ssl (encs c83 a0) a0.length false, .sc (.int .i64 a1), .sc (.int .i64 a2), .fn (.func g3) first3 caps3] (.sc (.bool r)) := by
  rw [aev_AHand] at h
  refine RunF.z Tryz.func41 rfl rfl rfl rfl rfl (fun C hr => ?_)
  refine gn (fun t H n => Q10_5 a0 a1 a2 t ∧ t 3 = .fn (.func g3) first3 caps3) ⟨⟨by simp, by simp, by simp⟩, by simp⟩ fun t H n q => ?_
  apply eY 2; simp [q]
  refine gn (fun t H n => Q10_5 a0 a1 a2 t ∧ t 3 = .fn (.func g3) first3 caps3) (by simp [q]) fun t H n q => ?_
  refine Stk.om (mop_box T.t84 (cs := [.fn (.func g3) first3 caps3]) (by show partOk (t 3) = true; rw [q.2]; rfl) (by show cellsOf (t 3) = _; rw [q.2]; rfl)) (by simp [q]) rfl (fun t' ht' => ?_)
  refine gn (fun t H n => ∃ b1, Q10_5 a0 a1 a2 t ∧ t 7 = .own b1 0 ∧ H b1 = some (.cells ([.fn (.func g3) first3 caps3]) 84) ∧ b1 < n) ⟨n, j2 (by simp [ht', q]) ⟨upd_same _ _ _, Nat.lt_succ_self _⟩⟩ fun t H n ⟨b1, ⟨f0, f1, f2⟩, f7, b_b1, l_b1⟩ => ?_
  apply eY 9; simp [f0, f1, f2, f7, b_b1]
  refine Stk.gd 5 13 18 (fun z => .sc (.bool (z && (decide ((a0.length : Int) ≤ a2))))) (w := decide (a1 ≤ (a0.length : Int))) (by simp [f0, f1, f2, f7, b_b1]) (by simp [f0, f1, f2, f7, b_b1]) (by simp [f0, f1, f2, f7, b_b1]) ?_; simp [f0, f1, f2, f7, b_b1]
  apply eY 1; simp [f0, f1, f2, f7, b_b1]
  refine gn (fun t H n => t 0 = .ssl (encs c83 a0) a0.length false ∧ t 7 = .own b1 0 ∧ t 19 = .sc (.bool ((decide (a1 ≤ (a0.length : Int))) && (decide ((a0.length : Int) ≤ a2)))) ∧ H b1 = some (.cells ([.fn (.func g3) first3 caps3]) 84) ∧ b1 < n) (by and_intros <;> first | assumption | simp [f0, f1, f2, f7, b_b1]) fun t H n q => ?_
  obtain ⟨K1, hK1, h⟩ := jnd h
  refine Stk.jo 5 (fun t H n => ∃ v2 : Bool, K1 v2 = some r ∧ t 24 = .sc (.bool v2)) (fun J1 hJ1 => ?_) ?_
  · rcases Bool.eq_false_or_eq_true ((decide (a1 ≤ (a0.length : Int))) && (decide ((a0.length : Int) ≤ a2))) with hb1 | hb1
    · obtain ⟨f0, f7, f19, b_b1, l_b1⟩ := q
      rw [hb1] at f19
      replace h := cT hb1 h
      obtain ⟨x3, hx3, h⟩ := bnd h
      apply eY 2; simp [f0, f7, f19, b_b1]
      refine Stk.cv (g := 110) (args := [.ssl (encs c83 a0) a0.length false, .fn (.func 111) [] [.own b1 0]]) (args' := [.ssl (encs c83 a0) a0.length false, .fn (.func 111) [] [.sh [.fn (.func g3) first3 caps3]]]) (v := .sc (.bool x3)) [b1] (ok_sCtHand F _ _ 111 [] [.sh [.fn (.func g3) first3 caps3]] (by and_intros <;> first | assumption | simp [freeL, free, fr3]) (fun y0 r h => ok_aev_AHand_1 F y0 _ _ _ _ fr3 hφ3 r h) _ hx3) (by simp [f0, f7, f19, b_b1]) rfl rfl (by simp [f0, f7, f19, b_b1]) (.cons (.free (freeL_encs fr83 _)) (.cons (.fn .nil (.cons (view_blk b_b1 (by simp) (by simp [freeL, free, fr3])) (.nil))) (.nil))) (.inr rfl) ?_
      rintro _ rfl
      apply eY 3; simp [f0, f7, f19, b_b1]
      exact l0 (hJ1 _ _ _ ⟨(!x3), h, by simp [f0, f7, f19, b_b1]⟩)
    · obtain ⟨f0, f7, f19, b_b1, l_b1⟩ := q
      rw [hb1] at f19
      replace h := cF hb1 h
      apply eY 6; simp [f0, f7, f19, b_b1]
      exact l0 (hJ1 _ _ _ ⟨false, h, by simp [f0, f7, f19, b_b1]⟩)
  clear q h
  rintro t H n ⟨v2, h, q⟩
  subst hK1
  apply eY 3; simp [q]
  obtain rfl := sj h
  exact (hF hr (by simp [q]) rfl).1
attribute [-simp] Go.Proofs.YtappiofmkoelnaaGreatDoorW.Ah.splice
open Go.Proofs.YtappiofmkoelnaaGreatDoorW.Ah Go.Proofs.YtappiofmkoelnaaGreatDoor
set_option linter.unusedVariables false
set_option linter.unusedSimpArgs false
set_option maxRecDepth 8000
attribute [local simp] T.t3 T.t4 T.t9 T.t22 T.t23 T.t26 T.t33 T.t34 T.t36 T.t81 T.t83 List.range List.range.loop
attribute [-simp] appendAV fillAV
theorem ok_ast_fitHand (F : Nat) (a0 : AHand) (r : Bool) (h : ast_fitHand F a0 = some r) : RunF Tryz.prog T.T 42 [.agg (c83 a0)] (.sc (.bool r)) := by
  rw [ast_fitHand] at h
  refine RunF.z Tryz.func42 rfl rfl rfl rfl rfl (fun C hr => ?_)
  refine gn (fun t H n => t 0 = .agg (c83 a0)) (by simp) fun t H n q => ?_
  apply eY 2; simp [q]
  refine gn (fun t H n => t 0 = .agg (c83 a0)) (by simp [q]) fun t H n q => ?_
  refine Stk.om (mop_box T.t83 (cs := c83 a0) (by show partOk (t 0) = true; rw [q]; rfl) (by show cellsOf (t 0) = _; rw [q]; rfl)) (by simp [q]) rfl (fun t' ht' => ?_)
  refine gn (fun t H n => ∃ b1, t 1 = .own b1 0 ∧ H b1 = some (.cells (c83 a0) 83) ∧ b1 < n) ⟨n, by simp [ht'], upd_same _ _ _, Nat.lt_succ_self _⟩ fun t H n ⟨b1, q⟩ => ?_
  obtain ⟨x2, hx2, h⟩ := bnd h
  apply eY 6; simp [q, ld_83_2_9]
  refine cw (ok_ast_small F _ _ hx2) (by simp [q, ld_83_2_9]) rfl rfl (by simp [q, ld_83_2_9]) (.cons (.free (rfl)) (.nil)) rfl ?_
  rintro _ rfl
  apply eY 1; simp [q, ld_83_2_9]
  refine gn (fun t H n => t 1 = .own b1 0 ∧ t 6 = .sc (.bool x2) ∧ H b1 = some (.cells (c83 a0) 83) ∧ b1 < n) (by simp [q, ld_83_2_9]) fun t H n q => ?_
  obtain ⟨K1, hK1, h⟩ := jnd h
  refine Stk.jo 4 (fun t H n => ∃ v3 : Bool, K1 v3 = some r ∧ t 1 = .own b1 0 ∧ t 10 = .sc (.bool v3) ∧ H b1 = some (.cells (c83 a0) 83) ∧ b1 < n) (fun J1 hJ1 => ?_) ?_
  · rcases Bool.eq_false_or_eq_true x2 with hb1 | hb1
    · obtain ⟨f1, f6, b_b1, l_b1⟩ := q
      rw [hb1] at f6
      replace h := cT hb1 h
      obtain ⟨x4, hx4, h⟩ := bnd h
      apply eY 2; simp [f1, f6, b_b1, ld_83_3_81]
      refine cw (ok_ast_fitParam F _ _ hx4) (by simp [f1, f6, b_b1, ld_83_3_81]) rfl rfl (by simp [f1, f6, b_b1, ld_83_3_81]) (.cons (.free (fr81 _)) (.nil)) rfl ?_
      rintro _ rfl
      apply eY 2; simp [f1, f6, b_b1, ld_83_3_81]
      exact l0 (hJ1 _ _ _ ⟨x4, h, by and_intros <;> first | assumption | simp [f1, f6, b_b1, ld_83_3_81]⟩)
    · obtain ⟨f1, f6, b_b1, l_b1⟩ := q
      rw [hb1] at f6
      replace h := cF hb1 h
      apply eY 5; simp [f1, f6, b_b1]
      exact l0 (hJ1 _ _ _ ⟨false, h, by and_intros <;> first | assumption | simp [f1, f6, b_b1]⟩)
  clear q h
  rintro t H n ⟨v3, h, q⟩
  subst hK1
  apply eY 1; simp [q]
  refine Stk.gd 4 11 15 (fun z => .sc (.bool (z && (decide (0 ≤ a0.Cap))))) (w := v3) (by simp [q]) (by simp [q, ld_83_7_3]) (by simp [q, ld_83_7_3]) ?_; simp [q]
  apply eY 1; simp [q]
  refine Stk.gd 4 16 20 (fun z => .sc (.bool (z && (decide (a0.Cap ≤ 64))))) (w := (v3 && (decide (0 ≤ a0.Cap)))) (by simp [q]) (by simp [q, ld_83_7_3]) (by simp [q, ld_83_7_3]) ?_; simp [q]
  apply eY 1; simp [q]
  refine gn (fun t H n => t 1 = .own b1 0 ∧ t 21 = .sc (.bool ((v3 && (decide (0 ≤ a0.Cap))) && (decide (a0.Cap ≤ 64)))) ∧ H b1 = some (.cells (c83 a0) 83) ∧ b1 < n) (by simp [q]) fun t H n q => ?_
  obtain ⟨K2, hK2, h⟩ := jnd h
  refine Stk.jo 4 (fun t H n => ∃ v5 : Bool, K2 v5 = some r ∧ t 25 = .sc (.bool v5)) (fun J2 hJ2 => ?_) ?_
  · rcases Bool.eq_false_or_eq_true ((v3 && (decide (0 ≤ a0.Cap))) && (decide (a0.Cap ≤ 64))) with hb2 | hb2
    · obtain ⟨f1, f21, b_b1, l_b1⟩ := q
      rw [hb2] at f21
      replace h := cT hb2 h
      obtain ⟨x6, hx6, h⟩ := bnd h
      apply eY 2; simp [f1, f21, b_b1, ld_83_8_33]
      refine cw (ok_ast_FitExpr F _ _ hx6) (by simp [f1, f21, b_b1, ld_83_8_33]) rfl rfl (by simp [f1, f21, b_b1, ld_83_8_33]) (.cons (.free (fr33 _)) (.nil)) rfl ?_
      rintro _ rfl
      apply eY 2; simp [f1, f21, b_b1, ld_83_8_33]
      exact l0 (hJ2 _ _ _ ⟨x6, h, by simp [f1, f21, b_b1, ld_83_8_33]⟩)
    · obtain ⟨f1, f21, b_b1, l_b1⟩ := q
      rw [hb2] at f21
      replace h := cF hb2 h
      apply eY 5; simp [f1, f21, b_b1]
      exact l0 (hJ2 _ _ _ ⟨false, h, by simp [f1, f21, b_b1]⟩)
  clear q h
  rintro t H n ⟨v5, h, q⟩
  subst hK2
  apply eY 3; simp [q]
  obtain rfl := sj h
  exact (hF hr (by simp [q]) rfl).1
@[simp] abbrev Q11_1 (a0 : AProg) (b1 : Nat) (t : Nat → AV) (H : Mem) (n : Nat) : Prop := t 1 = .own b1 0 ∧ H b1 = some (.cells (c36 a0) 36) ∧ b1 < n
theorem ok_ast_Fit (F : Nat) (a0 : AProg) (r : Bool) (h : ast_Fit F a0 = some r) : RunF Tryz.prog T.T 12 [.agg (c36 a0)] (.sc (.bool r)) := by
  rw [ast_Fit] at h
  refine RunF.z Tryz.func12 rfl rfl rfl rfl rfl (fun C hr => ?_)
  refine gn (fun t H n => t 0 = .agg (c36 a0)) (by simp) fun t H n q => ?_
  apply eY 2; simp [q]
  refine gn (fun t H n => t 0 = .agg (c36 a0)) (by simp [q]) fun t H n q => ?_
  refine Stk.om (mop_box T.t36 (cs := c36 a0) (by show partOk (t 0) = true; rw [q]; rfl) (by show cellsOf (t 0) = _; rw [q]; rfl)) (by simp [q]) rfl (fun t' ht' => ?_)
  refine gn (fun t H n => ∃ b1, t 1 = .own b1 0 ∧ H b1 = some (.cells (c36 a0) 36) ∧ b1 < n) ⟨n, by simp [ht'], upd_same _ _ _, Nat.lt_succ_self _⟩ fun t H n ⟨b1, q⟩ => ?_
  apply eY 9; simp [q, ld_36_2_3]
  refine Stk.gd 4 6 10 (fun z => .sc (.bool (z || (decide (32 < a0.Queue))))) (w := decide (a0.Queue < 1)) (by simp [q, ld_36_2_3]) (by simp [q, ld_36_2_3]) (by simp [q, ld_36_2_3]) ?_; simp [q, ld_36_2_3]
  apply eY 1; simp [q, ld_36_2_3]
  refine Stk.gd 4 11 15 (fun z => .sc (.bool (z || (decide (a0.Timers < 0))))) (w := ((decide (a0.Queue < 1)) || (decide (32 < a0.Queue)))) (by simp [q, ld_36_2_3]) (by simp [q, ld_36_2_3, ld_36_3_3]) (by simp [q, ld_36_2_3, ld_36_3_3]) ?_; simp [q, ld_36_2_3]
  apply eY 1; simp [q, ld_36_2_3]
  refine Stk.gd 4 16 20 (fun z => .sc (.bool (z || (decide (32 < a0.Timers))))) (w := (((decide (a0.Queue < 1)) || (decide (32 < a0.Queue))) || (decide (a0.Timers < 0)))) (by simp [q, ld_36_2_3]) (by simp [q, ld_36_2_3, ld_36_3_3]) (by simp [q, ld_36_2_3, ld_36_3_3]) ?_; simp [q, ld_36_2_3]
  apply eY 1; simp [q, ld_36_2_3]
  refine Stk.gd 4 21 25 (fun z => .sc (.bool (z || (decide (a0.Cap < 0))))) (w := ((((decide (a0.Queue < 1)) || (decide (32 < a0.Queue))) || (decide (a0.Timers < 0))) || (decide (32 < a0.Timers)))) (by simp [q, ld_36_2_3]) (by simp [q, ld_36_2_3, ld_36_7_3]) (by simp [q, ld_36_2_3, ld_36_7_3]) ?_; simp [q, ld_36_2_3]
  apply eY 1; simp [q, ld_36_2_3]
  refine Stk.gd 4 26 30 (fun z => .sc (.bool (z || (decide (256 < a0.Cap))))) (w := (((((decide (a0.Queue < 1)) || (decide (32 < a0.Queue))) || (decide (a0.Timers < 0))) || (decide (32 < a0.Timers))) || (decide (a0.Cap < 0)))) (by simp [q, ld_36_2_3]) (by simp [q, ld_36_2_3, ld_36_7_3]) (by simp [q, ld_36_2_3, ld_36_7_3]) ?_; simp [q, ld_36_2_3]
  apply eY 1; simp [q, ld_36_2_3]
  refine gn (fun t H n => Q11_1 a0 b1 t H n ∧ t 31 = .sc (.bool ((((((decide (a0.Queue < 1)) || (decide (32 < a0.Queue))) || (decide (a0.Timers < 0))) || (decide (32 < a0.Timers))) || (decide (a0.Cap < 0))) || (decide (256 < a0.Cap))))) (by simp [q, ld_36_2_3]) fun t H n q => ?_
  obtain ⟨K1, hK1, h⟩ := jnd h
  refine Stk.jo 5 (fun t H n => ∃ v2 : Bool, K1 v2 = some r ∧ t 1 = .own b1 0 ∧ t 36 = .sc (.bool v2) ∧ H b1 = some (.cells (c36 a0) 36) ∧ b1 < n) (fun J1 hJ1 => ?_) ?_
  · rcases Bool.eq_false_or_eq_true ((((((decide (a0.Queue < 1)) || (decide (32 < a0.Queue))) || (decide (a0.Timers < 0))) || (decide (32 < a0.Timers))) || (decide (a0.Cap < 0))) || (decide (256 < a0.Cap))) with hb1 | hb1
    · obtain ⟨⟨f1, b_b1, l_b1⟩, f31⟩ := q
      rw [hb1] at f31
      replace h := cT hb1 h
      apply eY 6; simp [f1, f31, b_b1]
      exact l0 (hJ1 _ _ _ ⟨true, h, by and_intros <;> first | assumption | simp [f1, f31, b_b1]⟩)
    · obtain ⟨⟨f1, b_b1, l_b1⟩, f31⟩ := q
      rw [hb1] at f31
      replace h := cF hb1 h
      obtain ⟨x3, hx3, h⟩ := bnd h
      apply eY 2; simp [f1, f31, b_b1, ld_36_4_26]
      refine cw (ok_ast_FitType F _ _ hx3) (by simp [f1, f31, b_b1, ld_36_4_26]) rfl rfl (by simp [f1, f31, b_b1, ld_36_4_26]) (.cons (.free (fr26 _)) (.nil)) rfl ?_
      rintro _ rfl
      apply eY 3; simp [f1, f31, b_b1, ld_36_4_26]
      exact l0 (hJ1 _ _ _ ⟨(!x3), h, by and_intros <;> first | assumption | simp [f1, f31, b_b1, ld_36_4_26]⟩)
  clear q h
  rintro t H n ⟨v2, h, q⟩
  subst hK1
  apply eY 1; simp [q]
  refine gn (fun t H n => Q11_1 a0 b1 t H n ∧ t 37 = .sc (.bool v2)) (by simp [q]) fun t H n q => ?_
  obtain ⟨K2, hK2, h⟩ := jnd h
  refine Stk.jo 5 (fun t H n => ∃ v4 : Bool, K2 v4 = some r ∧ t 1 = .own b1 0 ∧ t 42 = .sc (.bool v4) ∧ H b1 = some (.cells (c36 a0) 36) ∧ b1 < n) (fun J2 hJ2 => ?_) ?_
  · rcases Bool.eq_false_or_eq_true v2 with hb2 | hb2
    · obtain ⟨⟨f1, b_b1, l_b1⟩, f37⟩ := q
      rw [hb2] at f37
      replace h := cT hb2 h
      apply eY 6; simp [f1, f37, b_b1]
      exact l0 (hJ2 _ _ _ ⟨true, h, by and_intros <;> first | assumption | simp [f1, f37, b_b1]⟩)
    · obtain ⟨⟨f1, b_b1, l_b1⟩, f37⟩ := q
      rw [hb2] at f37
      replace h := cF hb2 h
      obtain ⟨x5, hx5, h⟩ := bnd h
      apply eY 2; simp [f1, f37, b_b1, ld_36_8_33]
      refine cw (ok_ast_FitExpr F _ _ hx5) (by simp [f1, f37, b_b1, ld_36_8_33]) rfl rfl (by simp [f1, f37, b_b1, ld_36_8_33]) (.cons (.free (fr33 _)) (.nil)) rfl ?_
      rintro _ rfl
      apply eY 3; simp [f1, f37, b_b1, ld_36_8_33]
      exact l0 (hJ2 _ _ _ ⟨(!x5), h, by and_intros <;> first | assumption | simp [f1, f37, b_b1, ld_36_8_33]⟩)
  clear q h
  rintro t H n ⟨v4, h, q⟩
  subst hK2
  apply eY 1; simp [q]
  refine cd v4 (by simp [q]) (fun hb6 => ?_) (fun hb6 => ?_)
  ·have h := cT hb6 h
   apply eY 5; simp [q]
   obtain rfl := sj h
   exact (hF hr (by simp [q]) rfl).1
  ·have h := cF hb6 h
   obtain ⟨x7, hx7, h⟩ := bnd h
   apply eY 5; simp [q, ld_36_0_22]
   refine cw (ok_aev_AData F _ _ _ _ 38 [] [] (by simp [freeL, free]) (fun y0 r h => ok_ast_fitData F y0 r h) _ hx7) (by simp [q, ld_36_0_22]) rfl rfl (by simp [q, ld_36_0_22]) (.cons (.free (freeL_encs fr72 _)) (.cons (.free (rfl)) (.cons (.free (rfl)) (.cons (.fn .nil (.nil)) (.nil))))) rfl ?_
   rintro _ rfl
   apply eY 1; simp [q, ld_36_0_22]
   refine gn (fun t H n => Q11_1 a0 b1 t H n ∧ t 46 = .sc (.bool x7)) (by simp [q, ld_36_0_22]) fun t H n q => ?_
   obtain ⟨K3, hK3, h⟩ := jnd h
   refine Stk.jo 4 (fun t H n => ∃ v8 : Bool, K3 v8 = some r ∧ t 1 = .own b1 0 ∧ t 50 = .sc (.bool v8) ∧ H b1 = some (.cells (c36 a0) 36) ∧ b1 < n) (fun J3 hJ3 => ?_) ?_
   · rcases Bool.eq_false_or_eq_true x7 with hb3 | hb3
     · obtain ⟨⟨f1, b_b1, l_b1⟩, f46⟩ := q
       rw [hb3] at f46
       replace h := cT hb3 h
       obtain ⟨x9, hx9, h⟩ := bnd h
       apply eY 2; simp [f1, f46, b_b1, ld_36_1_23]
       refine cw (ok_aev_AFun F _ _ _ _ 40 [] [] (by and_intros <;> first | assumption | simp [freeL, free]) (fun y0 r h => ok_ast_fitFun F y0 r h) _ hx9) (by simp [f1, f46, b_b1, ld_36_1_23]) rfl rfl (by simp [f1, f46, b_b1, ld_36_1_23]) (.cons (.free (freeL_encs fr77 _)) (.cons (.free (rfl)) (.cons (.free (rfl)) (.cons (.fn .nil (.nil)) (.nil))))) rfl ?_
       rintro _ rfl
       apply eY 2; simp [f1, f46, b_b1, ld_36_1_23]
       exact l0 (hJ3 _ _ _ ⟨x9, h, by and_intros <;> first | assumption | simp [f1, f46, b_b1, ld_36_1_23]⟩)
     · obtain ⟨⟨f1, b_b1, l_b1⟩, f46⟩ := q
       rw [hb3] at f46
       replace h := cF hb3 h
       apply eY 5; simp [f1, f46, b_b1]
       exact l0 (hJ3 _ _ _ ⟨false, h, by and_intros <;> first | assumption | simp [f1, f46, b_b1]⟩)
   clear q h
   rintro t H n ⟨v8, h, q⟩
   subst hK3
   apply eY 1; simp [q]
   refine gn (fun t H n => Q11_1 a0 b1 t H n ∧ t 51 = .sc (.bool v8)) (by simp [q]) fun t H n q => ?_
   obtain ⟨K4, hK4, h⟩ := jnd h
   refine Stk.jo 4 (fun t H n => ∃ v10 : Bool, K4 v10 = some r ∧ t 55 = .sc (.bool v10)) (fun J4 hJ4 => ?_) ?_
   · rcases Bool.eq_false_or_eq_true v8 with hb4 | hb4
     · obtain ⟨⟨f1, b_b1, l_b1⟩, f51⟩ := q
       rw [hb4] at f51
       replace h := cT hb4 h
       obtain ⟨x11, hx11, h⟩ := bnd h
       apply eY 2; simp [f1, f51, b_b1, ld_36_16_34]
       refine cw (ok_aev_AHand F _ _ _ _ 42 [] [] (by and_intros <;> first | assumption | simp [freeL, free]) (fun y0 r h => ok_ast_fitHand F y0 r h) _ hx11) (by simp [f1, f51, b_b1, ld_36_16_34]) rfl rfl (by simp [f1, f51, b_b1, ld_36_16_34]) (.cons (.free (freeL_encs fr83 _)) (.cons (.free (rfl)) (.cons (.free (rfl)) (.cons (.fn .nil (.nil)) (.nil))))) rfl ?_
       rintro _ rfl
       apply eY 2; simp [f1, f51, b_b1, ld_36_16_34]
       exact l0 (hJ4 _ _ _ ⟨x11, h, by simp [f1, f51, b_b1, ld_36_16_34]⟩)
     · obtain ⟨⟨f1, b_b1, l_b1⟩, f51⟩ := q
       rw [hb4] at f51
       replace h := cF hb4 h
       apply eY 5; simp [f1, f51, b_b1]
       exact l0 (hJ4 _ _ _ ⟨false, h, by simp [f1, f51, b_b1]⟩)
   clear q h
   rintro t H n ⟨v10, h, q⟩
   subst hK4
   apply eY 3; simp [q]
   obtain rfl := sj h
   exact (hF hr (by simp [q]) rfl).1
@[simp] abbrev Q11_2 (a0 : AProg) (a1 : AProg) (a2 : AProg) (b1 : Nat) (b2 : Nat) (b3 : Nat) (t : Nat → AV) (H : Mem) (n : Nat) : Prop := t 3 = .own b1 0 ∧ t 4 = .own b2 0 ∧ t 5 = .own b3 0 ∧ H b1 = some (.cells (c36 a0) 36) ∧ b1 < n ∧ H b2 = some (.cells (c36 a1) 36) ∧ b2 < n ∧ H b3 = some (.cells (c36 a2) 36) ∧ b3 < n ∧ b1 ≠ b2 ∧ b1 ≠ b3 ∧ b2 ≠ b3
theorem ok_L04_AstSame (F : Nat) (a0 : AProg) (a1 : AProg) (a2 : AProg) (r : Bool) (h : L04_AstSame F a0 a1 a2 = some r) : RunF Tryz.prog T.T 6 [.agg (c36 a0), .agg (c36 a1), .agg (c36 a2)] (.sc (.bool r)) := by
  rw [L04_AstSame] at h
  refine RunF.z Tryz.func6 rfl rfl rfl rfl rfl (fun C hr => ?_)
  refine gn (fun t H n => t 0 = .agg (c36 a0) ∧ t 1 = .agg (c36 a1) ∧ t 2 = .agg (c36 a2)) ⟨by simp, by simp, by simp⟩ fun t H n q => ?_
  apply eY 2; simp [q]
  refine gn (fun t H n => t 0 = .agg (c36 a0) ∧ t 1 = .agg (c36 a1) ∧ t 2 = .agg (c36 a2)) (by simp [q]) fun t H n q => ?_
  refine Stk.om (mop_box T.t36 (cs := c36 a0) (by show partOk (t 0) = true; rw [q.1]; rfl) (by show cellsOf (t 0) = _; rw [q.1]; rfl)) (by simp [q]) rfl (fun t' ht' => ?_)
  refine gn (fun t H n => ∃ b1, t 1 = .agg (c36 a1) ∧ t 2 = .agg (c36 a2) ∧ t 3 = .own b1 0 ∧ H b1 = some (.cells (c36 a0) 36) ∧ b1 < n) ⟨n, j3 (by simp [ht', q]) ⟨upd_same _ _ _, Nat.lt_succ_self _⟩⟩ fun t H n ⟨b1, q⟩ => ?_
  refine Stk.om (mop_box T.t36 (cs := c36 a1) (by show partOk (t 1) = true; rw [q.1]; rfl) (by show cellsOf (t 1) = _; rw [q.1]; rfl)) (by simp [q]) rfl (fun t' ht' => ?_)
  refine gn (fun t H n => ∃ b2, t 2 = .agg (c36 a2) ∧ t 3 = .own b1 0 ∧ t 4 = .own b2 0 ∧ H b1 = some (.cells (c36 a0) 36) ∧ b1 < n ∧ H b2 = some (.cells (c36 a1) 36) ∧ b2 < n ∧ b1 ≠ b2) ⟨n, j3 (by simp [ht', q]) ⟨(upd_ne _ _ (Nat.ne_of_lt q.2.2.2.2)).trans q.2.2.2.1, Nat.lt_succ_of_lt q.2.2.2.2, upd_same _ _ _, Nat.lt_succ_self _, Nat.ne_of_lt q.2.2.2.2⟩⟩ fun t H n ⟨b2, q⟩ => ?_
  refine Stk.om (mop_box T.t36 (cs := c36 a2) (by show partOk (t 2) = true; rw [q.1]; rfl) (by show cellsOf (t 2) = _; rw [q.1]; rfl)) (by simp [q]) rfl (fun t' ht' => ?_)
  refine gn (fun t H n => ∃ b3, t 3 = .own b1 0 ∧ t 4 = .own b2 0 ∧ t 5 = .own b3 0 ∧ H b1 = some (.cells (c36 a0) 36) ∧ b1 < n ∧ H b2 = some (.cells (c36 a1) 36) ∧ b2 < n ∧ H b3 = some (.cells (c36 a2) 36) ∧ b3 < n ∧ b1 ≠ b2 ∧ b1 ≠ b3 ∧ b2 ≠ b3) ⟨n, j3 (by simp [ht', q]) ⟨(upd_ne _ _ (Nat.ne_of_lt q.2.2.2.2.1)).trans q.2.2.2.1, Nat.lt_succ_of_lt q.2.2.2.2.1, (upd_ne _ _ (Nat.ne_of_lt q.2.2.2.2.2.2.1)).trans q.2.2.2.2.2.1, Nat.lt_succ_of_lt q.2.2.2.2.2.2.1, upd_same _ _ _, Nat.lt_succ_self _, q.2.2.2.2.2.2.2, Nat.ne_of_lt q.2.2.2.2.1, Nat.ne_of_lt q.2.2.2.2.2.2.1⟩⟩ fun t H n ⟨b3, q⟩ => ?_
  obtain ⟨x4, hx4, h⟩ := bnd h
  apply eY 6; simp [q, ld_36_0_36]
  refine cw (ok_L04_light F _ _ hx4) (by simp [q, ld_36_0_36]) rfl rfl (by simp [q, ld_36_0_36]) (.cons (.free (fr36 _)) (.nil)) rfl ?_
  rintro _ rfl
  apply eY 2; simp [q, ld_36_0_36]
  refine gn (fun t H n => Q11_2 a0 a1 a2 b1 b2 b3 t H n ∧ t 12 = .sc (.bool (!x4))) (by simp [q, ld_36_0_36]) fun t H n q => ?_
  obtain ⟨K1, hK1, h⟩ := jnd h
  refine Stk.jo 4 (fun t H n => ∃ v5 : Bool, K1 v5 = some r ∧ t 3 = .own b1 0 ∧ t 4 = .own b2 0 ∧ t 5 = .own b3 0 ∧ t 16 = .sc (.bool v5) ∧ H b1 = some (.cells (c36 a0) 36) ∧ b1 < n ∧ H b2 = some (.cells (c36 a1) 36) ∧ b2 < n ∧ H b3 = some (.cells (c36 a2) 36) ∧ b3 < n ∧ b1 ≠ b2 ∧ b1 ≠ b3 ∧ b2 ≠ b3) (fun J1 hJ1 => ?_) ?_
  · rcases Bool.eq_false_or_eq_true (!x4) with hb1 | hb1
    · obtain ⟨⟨f3, f4, f5, b_b1, l_b1, b_b2, l_b2, b_b3, l_b3, d_b1_b2, d_b1_b3, d_b2_b3⟩, f12⟩ := q
      rw [hb1] at f12
      replace h := cT hb1 h
      apply eY 5; simp [f3, f4, f5, f12, b_b1, b_b2, b_b3]
      exact l0 (hJ1 _ _ _ ⟨true, h, by and_intros <;> first | assumption | simp [f3, f4, f5, f12, b_b1, b_b2, b_b3]⟩)
    · obtain ⟨⟨f3, f4, f5, b_b1, l_b1, b_b2, l_b2, b_b3, l_b3, d_b1_b2, d_b1_b3, d_b2_b3⟩, f12⟩ := q
      rw [hb1] at f12
      replace h := cF hb1 h
      obtain ⟨x6, hx6, h⟩ := bnd h
      apply eY 1; simp [f3, f4, f5, f12, b_b1, b_b2, b_b3, ld_36_0_36]
      refine cw (ok_L04_light F _ _ hx6) (by simp [f3, f4, f5, f12, b_b1, b_b2, b_b3, ld_36_0_36]) rfl rfl (by simp [f3, f4, f5, f12, b_b1, b_b2, b_b3, ld_36_0_36]) (.cons (.free (fr36 _)) (.nil)) rfl ?_
      rintro _ rfl
      apply eY 3; simp [f3, f4, f5, f12, b_b1, b_b2, b_b3, ld_36_0_36]
      exact l0 (hJ1 _ _ _ ⟨(!x6), h, by and_intros <;> first | assumption | simp [f3, f4, f5, f12, b_b1, b_b2, b_b3, ld_36_0_36]⟩)
  clear q h
  rintro t H n ⟨v5, h, q⟩
  subst hK1
  apply eY 1; simp [q]
  refine gn (fun t H n => Q11_2 a0 a1 a2 b1 b2 b3 t H n ∧ t 17 = .sc (.bool v5)) (by simp [q]) fun t H n q => ?_
  obtain ⟨K2, hK2, h⟩ := jnd h
  refine Stk.jo 4 (fun t H n => ∃ v7 : Bool, K2 v7 = some r ∧ t 3 = .own b1 0 ∧ t 4 = .own b2 0 ∧ t 5 = .own b3 0 ∧ t 21 = .sc (.bool v7) ∧ H b1 = some (.cells (c36 a0) 36) ∧ b1 < n ∧ H b2 = some (.cells (c36 a1) 36) ∧ b2 < n ∧ H b3 = some (.cells (c36 a2) 36) ∧ b3 < n ∧ b1 ≠ b2 ∧ b1 ≠ b3 ∧ b2 ≠ b3) (fun J2 hJ2 => ?_) ?_
  · rcases Bool.eq_false_or_eq_true v5 with hb2 | hb2
    · obtain ⟨⟨f3, f4, f5, b_b1, l_b1, b_b2, l_b2, b_b3, l_b3, d_b1_b2, d_b1_b3, d_b2_b3⟩, f17⟩ := q
      rw [hb2] at f17
      replace h := cT hb2 h
      apply eY 5; simp [f3, f4, f5, f17, b_b1, b_b2, b_b3]
      exact l0 (hJ2 _ _ _ ⟨true, h, by and_intros <;> first | assumption | simp [f3, f4, f5, f17, b_b1, b_b2, b_b3]⟩)
    · obtain ⟨⟨f3, f4, f5, b_b1, l_b1, b_b2, l_b2, b_b3, l_b3, d_b1_b2, d_b1_b3, d_b2_b3⟩, f17⟩ := q
      rw [hb2] at f17
      replace h := cF hb2 h
      obtain ⟨x8, hx8, h⟩ := bnd h
      apply eY 1; simp [f3, f4, f5, f17, b_b1, b_b2, b_b3, ld_36_0_36]
      refine cw (ok_L04_light F _ _ hx8) (by simp [f3, f4, f5, f17, b_b1, b_b2, b_b3, ld_36_0_36]) rfl rfl (by simp [f3, f4, f5, f17, b_b1, b_b2, b_b3, ld_36_0_36]) (.cons (.free (fr36 _)) (.nil)) rfl ?_
      rintro _ rfl
      apply eY 3; simp [f3, f4, f5, f17, b_b1, b_b2, b_b3, ld_36_0_36]
      exact l0 (hJ2 _ _ _ ⟨(!x8), h, by and_intros <;> first | assumption | simp [f3, f4, f5, f17, b_b1, b_b2, b_b3, ld_36_0_36]⟩)
  clear q h
  rintro t H n ⟨v7, h, q⟩
  subst hK2
  apply eY 1; simp [q]
  refine cd v7 (by simp [q]) (fun hb9 => ?_) (fun hb9 => ?_)
  ·have h := cT hb9 h
   obtain ⟨x10, hx10, h⟩ := bnd h
   apply eY 2; simp [q]
   refine cw (ok_L04_awake F  _ hx10) (by simp [q]) rfl rfl (by simp [q]) (.nil) rfl ?_
   rintro _ rfl
   apply eY 3; simp [q]
   obtain rfl := sj h
   exact (hF hr (by simp [q]) rfl).1
  ·have h := cF hb9 h
   obtain ⟨x11, hx11, h⟩ := bnd h
   apply eY 4; simp [q, ld_36_0_36]
   refine cw (ok_ast_Bare F _ _ hx11) (by simp [q, ld_36_0_36]) rfl rfl (by simp [q, ld_36_0_36]) (.cons (.free (fr36 _)) (.nil)) (fr36 _) ?_
   rintro _ rfl
   refine Stk.oz T.t36 (cs := c36 (AProg.mk [] [] 0 0 (AType.mk 0 ⟨#[]⟩ []) 0 (AExpr.mk 0 (APos.mk 0 0) 0 [] ⟨#[]⟩ [] []) [])) (by rfl) rfl (by simp [q, ld_36_0_36]) rfl (fun t' ht' => ?_)
   refine gn (fun t H n => ∃ b12, Q11_2 a0 a1 a2 b1 b2 b3 t H n ∧ t 7 = .own b12 0 ∧ t 24 = .agg (c36 x11) ∧ H b12 = some (.cells (c36 (AProg.mk [] [] 0 0 (AType.mk 0 ⟨#[]⟩ []) 0 (AExpr.mk 0 (APos.mk 0 0) 0 [] ⟨#[]⟩ [] []) [])) 36) ∧ b12 < n ∧ b1 ≠ b12 ∧ b2 ≠ b12 ∧ b3 ≠ b12) ⟨n, ⟨by simp [ht', q, ld_36_0_36], by simp [ht', q, ld_36_0_36], by simp [ht', q, ld_36_0_36], (upd_ne _ _ (Nat.ne_of_lt q.2.2.2.2.2.1)).trans q.2.2.2.2.1, Nat.lt_succ_of_lt q.2.2.2.2.2.1, (upd_ne _ _ (Nat.ne_of_lt q.2.2.2.2.2.2.2.1)).trans q.2.2.2.2.2.2.1, Nat.lt_succ_of_lt q.2.2.2.2.2.2.2.1, (upd_ne _ _ (Nat.ne_of_lt q.2.2.2.2.2.2.2.2.2.1)).trans q.2.2.2.2.2.2.2.2.1, Nat.lt_succ_of_lt q.2.2.2.2.2.2.2.2.2.1, q.2.2.2.2.2.2.2.2.2.2.1, q.2.2.2.2.2.2.2.2.2.2.2.1, q.2.2.2.2.2.2.2.2.2.2.2.2⟩, j2 (by simp [ht', q, ld_36_0_36]) ⟨upd_same _ _ _, Nat.lt_succ_self _, Nat.ne_of_lt q.2.2.2.2.2.1, Nat.ne_of_lt q.2.2.2.2.2.2.2.1, Nat.ne_of_lt q.2.2.2.2.2.2.2.2.2.1⟩⟩ fun t H n ⟨b12, ⟨f3, f4, f5, b_b1, l_b1, b_b2, l_b2, b_b3, l_b3, d_b1_b2, d_b1_b3, d_b2_b3⟩, f7, f24, b_b12, l_b12, d_b1_b12, d_b2_b12, d_b3_b12⟩ => ?_
   refine Stk.om (mop_store (z := 17) rfl f7 b_b12 f24 (len36 _) (by rw [len36]; decide) (ok36 _) (st_36_0_36 _ _)) (by simp [f3, f4, f5, f7, f24]) rfl (fun t' ht' => ?_)
   refine gn (fun t H n => Q11_2 a0 a1 a2 b1 b2 b3 t H n ∧ t 7 = .own b12 0 ∧ H b12 = some (.cells (c36 x11) 36) ∧ b12 < n ∧ b1 ≠ b12 ∧ b2 ≠ b12 ∧ b3 ≠ b12) ⟨⟨by simp [ht', f3], by simp [ht', f4], by simp [ht', f5], (upd_ne _ _ d_b1_b12).trans b_b1, l_b1, (upd_ne _ _ d_b2_b12).trans b_b2, l_b2, (upd_ne _ _ d_b3_b12).trans b_b3, l_b3, d_b1_b2, d_b1_b3, d_b2_b3⟩, by simp [ht', f7], upd_same _ _ _, l_b12, d_b1_b12, d_b2_b12, d_b3_b12⟩ fun t H n q => ?_
   obtain ⟨x13, hx13, h⟩ := bnd h
   apply eY 4; simp [q, ld_36_0_36]
   refine cw (ok_ast_Bare F _ _ hx13) (by simp [q, ld_36_0_36]) rfl rfl (by simp [q, ld_36_0_36]) (.cons (.free (fr36 _)) (.nil)) (fr36 _) ?_
   rintro _ rfl
   refine Stk.oz T.t36 (cs := c36 (AProg.mk [] [] 0 0 (AType.mk 0 ⟨#[]⟩ []) 0 (AExpr.mk 0 (APos.mk 0 0) 0 [] ⟨#[]⟩ [] []) [])) (by rfl) rfl (by simp [q, ld_36_0_36]) rfl (fun t' ht' => ?_)
   refine gn (fun t H n => ∃ b14, Q11_2 a0 a1 a2 b1 b2 b3 t H n ∧ t 7 = .own b12 0 ∧ t 8 = .own b14 0 ∧ t 26 = .agg (c36 x13) ∧ H b12 = some (.cells (c36 x11) 36) ∧ b12 < n ∧ H b14 = some (.cells (c36 (AProg.mk [] [] 0 0 (AType.mk 0 ⟨#[]⟩ []) 0 (AExpr.mk 0 (APos.mk 0 0) 0 [] ⟨#[]⟩ [] []) [])) 36) ∧ b14 < n ∧ b1 ≠ b12 ∧ b2 ≠ b12 ∧ b3 ≠ b12 ∧ b1 ≠ b14 ∧ b2 ≠ b14 ∧ b3 ≠ b14 ∧ b12 ≠ b14) ⟨n, ⟨by simp [ht', q, ld_36_0_36], by simp [ht', q, ld_36_0_36], by simp [ht', q, ld_36_0_36], (upd_ne _ _ (Nat.ne_of_lt q.1.2.2.2.2.1)).trans q.1.2.2.2.1, Nat.lt_succ_of_lt q.1.2.2.2.2.1, (upd_ne _ _ (Nat.ne_of_lt q.1.2.2.2.2.2.2.1)).trans q.1.2.2.2.2.2.1, Nat.lt_succ_of_lt q.1.2.2.2.2.2.2.1, (upd_ne _ _ (Nat.ne_of_lt q.1.2.2.2.2.2.2.2.2.1)).trans q.1.2.2.2.2.2.2.2.1, Nat.lt_succ_of_lt q.1.2.2.2.2.2.2.2.2.1, q.1.2.2.2.2.2.2.2.2.2.1, q.1.2.2.2.2.2.2.2.2.2.2.1, q.1.2.2.2.2.2.2.2.2.2.2.2⟩, j3 (by simp [ht', q, ld_36_0_36]) ⟨(upd_ne _ _ (Nat.ne_of_lt q.2.2.2.1)).trans q.2.2.1, Nat.lt_succ_of_lt q.2.2.2.1, upd_same _ _ _, Nat.lt_succ_self _, q.2.2.2.2.1, q.2.2.2.2.2.1, q.2.2.2.2.2.2, Nat.ne_of_lt q.1.2.2.2.2.1, Nat.ne_of_lt q.1.2.2.2.2.2.2.1, Nat.ne_of_lt q.1.2.2.2.2.2.2.2.2.1, Nat.ne_of_lt q.2.2.2.1⟩⟩ fun t H n ⟨b14, ⟨f3, f4, f5, b_b1, l_b1, b_b2, l_b2, b_b3, l_b3, d_b1_b2, d_b1_b3, d_b2_b3⟩, f7, f8, f26, b_b12, l_b12, b_b14, l_b14, d_b1_b12, d_b2_b12, d_b3_b12, d_b1_b14, d_b2_b14, d_b3_b14, d_b12_b14⟩ => ?_
   refine Stk.om (mop_store (z := 17) rfl f8 b_b14 f26 (len36 _) (by rw [len36]; decide) (ok36 _) (st_36_0_36 _ _)) (by simp [f3, f4, f5, f7, f8, f26]) rfl (fun t' ht' => ?_)
   refine gn (fun t H n => Q11_2 a0 a1 a2 b1 b2 b3 t H n ∧ t 7 = .own b12 0 ∧ t 8 = .own b14 0 ∧ H b12 = some (.cells (c36 x11) 36) ∧ b12 < n ∧ H b14 = some (.cells (c36 x13) 36) ∧ b14 < n ∧ b1 ≠ b12 ∧ b2 ≠ b12 ∧ b3 ≠ b12 ∧ b1 ≠ b14 ∧ b2 ≠ b14 ∧ b3 ≠ b14 ∧ b12 ≠ b14) ⟨⟨by simp [ht', f3], by simp [ht', f4], by simp [ht', f5], (upd_ne _ _ d_b1_b14).trans b_b1, l_b1, (upd_ne _ _ d_b2_b14).trans b_b2, l_b2, (upd_ne _ _ d_b3_b14).trans b_b3, l_b3, d_b1_b2, d_b1_b3, d_b2_b3⟩, j2 (by simp [ht', f7, f8]) ⟨(upd_ne _ _ d_b12_b14).trans b_b12, l_b12, upd_same _ _ _, l_b14, d_b1_b12, d_b2_b12, d_b3_b12, d_b1_b14, d_b2_b14, d_b3_b14, d_b12_b14⟩⟩ fun t H n q => ?_
   apply eY 3; simp [q]
   refine gn (fun t H n => Q11_2 a0 a1 a2 b1 b2 b3 t H n ∧ t 7 = .own b12 0 ∧ t 8 = .own b14 0 ∧ H b12 = some (.cells (c36 x11) 36) ∧ b12 < n ∧ H b14 = some (.cells (c36 x13) 36) ∧ b14 < n ∧ b1 ≠ b12 ∧ b2 ≠ b12 ∧ b3 ≠ b12 ∧ b1 ≠ b14 ∧ b2 ≠ b14 ∧ b3 ≠ b14 ∧ b12 ≠ b14) (by simp [q]) fun t H n q => ?_
   obtain ⟨n0, hn0⟩ : ∃ m, m = n := ⟨n, rfl⟩
   have ln0 : n0 ≤ n := Nat.le_of_eq hn0
   refine Stk.rgD [.rd [b1], .rd [b12], .rd [], .rd [], .rd [], .rd [b12], .rd [b1], .rd [], .rd [], .rd [], .rd [], .rd [b12], .rd [b14], .rd [], .rd [], .rd [], .rd [], .rd [b12], .rd [], .rd [], .rd [], .rd [b1], .rd [b2], .rd [], .rd [b2], .rd [b1], .rd [], .rd [], .rd [], .rd [], .rd [b1], .rd [], .rd [b12], .rd [], .rd [], .rd []] none (by kernel_rfl) (by rfl) rfl (by simp [below, hn0, q, hn0, hn0, hn0, hn0]) rfl ?_
   obtain ⟨x15, hx15, h⟩ := bnd h
   apply eY 2; simp [q, ld_36_0_36]
   refine cx (ok_ast_Same F _ _ _ hx15) rfl rfl (by simp [q, ld_36_0_36]) rfl rfl (by simp [q, ld_36_0_36]) (.cons (.free (fr36 _)) (.cons (.free (fr36 _)) (.nil))) rfl ?_
   rintro _ rfl
   apply eY 2; simp [q, ld_36_0_36]
   refine gn (fun t H n => Q11_2 a0 a1 a2 b1 b2 b3 t H n ∧ t 7 = .own b12 0 ∧ t 8 = .own b14 0 ∧ t 31 = .sc (.bool (!x15)) ∧ H b12 = some (.cells (c36 x11) 36) ∧ b12 < n ∧ H b14 = some (.cells (c36 x13) 36) ∧ b14 < n ∧ b1 ≠ b12 ∧ b2 ≠ b12 ∧ b3 ≠ b12 ∧ b1 ≠ b14 ∧ b2 ≠ b14 ∧ b3 ≠ b14 ∧ b12 ≠ b14 ∧ n0 ≤ n) (by simp [q, ld_36_0_36, ln0]) fun t H n q => ?_
   obtain ⟨K3, hK3, h⟩ := jnd h
   refine Stk.jd 5 (fun t H n => ∃ v16 : Bool, K3 v16 = some r ∧ t 3 = .own b1 0 ∧ t 4 = .own b2 0 ∧ t 5 = .own b3 0 ∧ t 7 = .own b12 0 ∧ t 8 = .own b14 0 ∧ t 36 = .sc (.bool v16) ∧ H b1 = some (.cells (c36 a0) 36) ∧ b1 < n ∧ H b2 = some (.cells (c36 a1) 36) ∧ b2 < n ∧ H b3 = some (.cells (c36 a2) 36) ∧ b3 < n ∧ H b12 = some (.cells (c36 x11) 36) ∧ b12 < n ∧ H b14 = some (.cells (c36 x13) 36) ∧ b14 < n ∧ b1 ≠ b2 ∧ b1 ≠ b3 ∧ b2 ≠ b3 ∧ b1 ≠ b12 ∧ b2 ≠ b12 ∧ b3 ≠ b12 ∧ b1 ≠ b14 ∧ b2 ≠ b14 ∧ b3 ≠ b14 ∧ b12 ≠ b14) (fun J3 hJ3 => ?_) ?_
   · rcases Bool.eq_false_or_eq_true (!x15) with hb3 | hb3
     · obtain ⟨⟨f3, f4, f5, b_b1, l_b1, b_b2, l_b2, b_b3, l_b3, d_b1_b2, d_b1_b3, d_b2_b3⟩, f7, f8, f31, b_b12, l_b12, b_b14, l_b14, d_b1_b12, d_b2_b12, d_b3_b12, d_b1_b14, d_b2_b14, d_b3_b14, d_b12_b14, ln0⟩ := q
       rw [hb3] at f31
       replace h := cT hb3 h
       apply eY 6; simp [f3, f4, f5, f7, f8, f31, b_b1, b_b2, b_b3, b_b12, b_b14]
       exact l0 (hJ3 _ _ _ ⟨true, h, by and_intros <;> first | assumption | simp [f3, f4, f5, f7, f8, f31, b_b1, b_b2, b_b3, b_b12, b_b14]⟩)
     · obtain ⟨⟨f3, f4, f5, b_b1, l_b1, b_b2, l_b2, b_b3, l_b3, d_b1_b2, d_b1_b3, d_b2_b3⟩, f7, f8, f31, b_b12, l_b12, b_b14, l_b14, d_b1_b12, d_b2_b12, d_b3_b12, d_b1_b14, d_b2_b14, d_b3_b14, d_b12_b14, ln0⟩ := q
       rw [hb3] at f31
       replace h := cF hb3 h
       obtain ⟨x17, hx17, h⟩ := bnd h
       apply eY 2; simp [f3, f4, f5, f7, f8, f31, b_b1, b_b2, b_b3, b_b12, b_b14, ld_36_0_36]
       refine cx (ok_ast_Same F _ _ _ hx17) rfl rfl (by simp [f3, f4, f5, f7, f8, f31, b_b1, b_b2, b_b3, b_b12, b_b14, ld_36_0_36]) rfl rfl (by simp [f3, f4, f5, f7, f8, f31, b_b1, b_b2, b_b3, b_b12, b_b14, ld_36_0_36]) (.cons (.free (fr36 _)) (.cons (.free (fr36 _)) (.nil))) rfl ?_
       rintro _ rfl
       apply eY 3; simp [f3, f4, f5, f7, f8, f31, b_b1, b_b2, b_b3, b_b12, b_b14, ld_36_0_36]
       exact l0 (hJ3 _ _ _ ⟨(!x17), h, by and_intros <;> first | assumption | simp [f3, f4, f5, f7, f8, f31, b_b1, b_b2, b_b3, b_b12, b_b14, ld_36_0_36]⟩)
   clear q h
   rintro t H n ⟨v16, h, q⟩
   subst hK3
   apply eY 1; simp [q]
   refine gn (fun t H n => Q11_2 a0 a1 a2 b1 b2 b3 t H n ∧ t 7 = .own b12 0 ∧ t 8 = .own b14 0 ∧ t 37 = .sc (.bool v16) ∧ H b12 = some (.cells (c36 x11) 36) ∧ b12 < n ∧ H b14 = some (.cells (c36 x13) 36) ∧ b14 < n ∧ b1 ≠ b12 ∧ b2 ≠ b12 ∧ b3 ≠ b12 ∧ b1 ≠ b14 ∧ b2 ≠ b14 ∧ b3 ≠ b14 ∧ b12 ≠ b14) (by simp [q]) fun t H n q => ?_
   obtain ⟨K4, hK4, h⟩ := jnd h
   refine Stk.jd 5 (fun t H n => ∃ v18 : Bool, K4 v18 = some r ∧ t 3 = .own b1 0 ∧ t 4 = .own b2 0 ∧ t 5 = .own b3 0 ∧ t 7 = .own b12 0 ∧ t 42 = .sc (.bool v18) ∧ H b1 = some (.cells (c36 a0) 36) ∧ b1 < n ∧ H b2 = some (.cells (c36 a1) 36) ∧ b2 < n ∧ H b3 = some (.cells (c36 a2) 36) ∧ b3 < n ∧ H b12 = some (.cells (c36 x11) 36) ∧ b12 < n ∧ b1 ≠ b2 ∧ b1 ≠ b3 ∧ b2 ≠ b3 ∧ b1 ≠ b12 ∧ b2 ≠ b12 ∧ b3 ≠ b12) (fun J4 hJ4 => ?_) ?_
   · rcases Bool.eq_false_or_eq_true v16 with hb4 | hb4
     · obtain ⟨⟨f3, f4, f5, b_b1, l_b1, b_b2, l_b2, b_b3, l_b3, d_b1_b2, d_b1_b3, d_b2_b3⟩, f7, f8, f37, b_b12, l_b12, b_b14, l_b14, d_b1_b12, d_b2_b12, d_b3_b12, d_b1_b14, d_b2_b14, d_b3_b14, d_b12_b14⟩ := q
       rw [hb4] at f37
       replace h := cT hb4 h
       apply eY 6; simp [f3, f4, f5, f7, f8, f37, b_b1, b_b2, b_b3, b_b12, b_b14]
       exact l0 (hJ4 _ _ _ ⟨true, h, by and_intros <;> first | assumption | simp [f3, f4, f5, f7, f8, f37, b_b1, b_b2, b_b3, b_b12, b_b14]⟩)
     · obtain ⟨⟨f3, f4, f5, b_b1, l_b1, b_b2, l_b2, b_b3, l_b3, d_b1_b2, d_b1_b3, d_b2_b3⟩, f7, f8, f37, b_b12, l_b12, b_b14, l_b14, d_b1_b12, d_b2_b12, d_b3_b12, d_b1_b14, d_b2_b14, d_b3_b14, d_b12_b14⟩ := q
       rw [hb4] at f37
       replace h := cF hb4 h
       obtain ⟨x19, hx19, h⟩ := bnd h
       apply eY 2; simp [f3, f4, f5, f7, f8, f37, b_b1, b_b2, b_b3, b_b12, b_b14, ld_36_0_36]
       refine cx (ok_R04_Same F _ _ _ hx19) rfl rfl (by simp [f3, f4, f5, f7, f8, f37, b_b1, b_b2, b_b3, b_b12, b_b14, ld_36_0_36]) rfl rfl (by simp [f3, f4, f5, f7, f8, f37, b_b1, b_b2, b_b3, b_b12, b_b14, ld_36_0_36]) (.cons (.free (fr36 _)) (.cons (.free (fr36 _)) (.nil))) rfl ?_
       rintro _ rfl
       apply eY 3; simp [f3, f4, f5, f7, f8, f37, b_b1, b_b2, b_b3, b_b12, b_b14, ld_36_0_36]
       exact l0 (hJ4 _ _ _ ⟨(!x19), h, by and_intros <;> first | assumption | simp [f3, f4, f5, f7, f8, f37, b_b1, b_b2, b_b3, b_b12, b_b14, ld_36_0_36]⟩)
   clear q h
   rintro t H n ⟨v18, h, q⟩
   subst hK4
   apply eY 1; simp [q]
   refine gn (fun t H n => Q11_2 a0 a1 a2 b1 b2 b3 t H n ∧ t 7 = .own b12 0 ∧ t 43 = .sc (.bool v18) ∧ H b12 = some (.cells (c36 x11) 36) ∧ b12 < n ∧ b1 ≠ b12 ∧ b2 ≠ b12 ∧ b3 ≠ b12) (by simp [q]) fun t H n q => ?_
   obtain ⟨K5, hK5, h⟩ := jnd h
   refine Stk.jd 3 (fun t H n => ∃ v20 : Bool, K5 v20 = some r ∧ t 3 = .own b1 0 ∧ t 4 = .own b2 0 ∧ t 5 = .own b3 0 ∧ t 7 = .own b12 0 ∧ t 46 = .sc (.bool v20) ∧ H b1 = some (.cells (c36 a0) 36) ∧ b1 < n ∧ H b2 = some (.cells (c36 a1) 36) ∧ b2 < n ∧ H b3 = some (.cells (c36 a2) 36) ∧ b3 < n ∧ H b12 = some (.cells (c36 x11) 36) ∧ b12 < n ∧ b1 ≠ b2 ∧ b1 ≠ b3 ∧ b2 ≠ b3 ∧ b1 ≠ b12 ∧ b2 ≠ b12 ∧ b3 ≠ b12) (fun J5 hJ5 => ?_) ?_
   · rcases Bool.eq_false_or_eq_true v18 with hb5 | hb5
     · obtain ⟨⟨f3, f4, f5, b_b1, l_b1, b_b2, l_b2, b_b3, l_b3, d_b1_b2, d_b1_b3, d_b2_b3⟩, f7, f43, b_b12, l_b12, d_b1_b12, d_b2_b12, d_b3_b12⟩ := q
       rw [hb5] at f43
       replace h := cT hb5 h
       apply eY 4; simp [f3, f4, f5, f7, f43, b_b1, b_b2, b_b3, b_b12]
       exact l0 (hJ5 _ _ _ ⟨true, h, by and_intros <;> first | assumption | simp [f3, f4, f5, f7, f43, b_b1, b_b2, b_b3, b_b12]⟩)
     · obtain ⟨⟨f3, f4, f5, b_b1, l_b1, b_b2, l_b2, b_b3, l_b3, d_b1_b2, d_b1_b3, d_b2_b3⟩, f7, f43, b_b12, l_b12, d_b1_b12, d_b2_b12, d_b3_b12⟩ := q
       rw [hb5] at f43
       replace h := cF hb5 h
       obtain ⟨x21, hx21, h⟩ := bnd h
       apply eY 1; simp [f3, f4, f5, f7, f43, b_b1, b_b2, b_b3, b_b12, ld_36_0_36]
       refine cx (ok_R04_Placed F _ _ hx21) rfl rfl (by simp [f3, f4, f5, f7, f43, b_b1, b_b2, b_b3, b_b12, ld_36_0_36]) rfl rfl (by simp [f3, f4, f5, f7, f43, b_b1, b_b2, b_b3, b_b12, ld_36_0_36]) (.cons (.free (fr36 _)) (.nil)) rfl ?_
       rintro _ rfl
       apply eY 2; simp [f3, f4, f5, f7, f43, b_b1, b_b2, b_b3, b_b12, ld_36_0_36]
       exact l0 (hJ5 _ _ _ ⟨x21, h, by and_intros <;> first | assumption | simp [f3, f4, f5, f7, f43, b_b1, b_b2, b_b3, b_b12, ld_36_0_36]⟩)
   clear q h
   rintro t H n ⟨v20, h, q⟩
   subst hK5
   apply eY 1; simp [q]
   refine gn (fun t H n => Q11_2 a0 a1 a2 b1 b2 b3 t H n ∧ t 7 = .own b12 0 ∧ t 47 = .sc (.bool v20) ∧ H b12 = some (.cells (c36 x11) 36) ∧ b12 < n ∧ b1 ≠ b12 ∧ b2 ≠ b12 ∧ b3 ≠ b12) (by simp [q]) fun t H n q => ?_
   obtain ⟨K6, hK6, h⟩ := jnd h
   refine Stk.jd 8 (fun t H n => ∃ v22 : Bool, K6 v22 = some r ∧ t 3 = .own b1 0 ∧ t 4 = .own b2 0 ∧ t 5 = .own b3 0 ∧ t 7 = .own b12 0 ∧ t 55 = .sc (.bool v22) ∧ H b1 = some (.cells (c36 a0) 36) ∧ b1 < n ∧ H b2 = some (.cells (c36 a1) 36) ∧ b2 < n ∧ H b3 = some (.cells (c36 a2) 36) ∧ b3 < n ∧ H b12 = some (.cells (c36 x11) 36) ∧ b12 < n ∧ b1 ≠ b2 ∧ b1 ≠ b3 ∧ b2 ≠ b3 ∧ b1 ≠ b12 ∧ b2 ≠ b12 ∧ b3 ≠ b12) (fun J6 hJ6 => ?_) ?_
   · rcases Bool.eq_false_or_eq_true v20 with hb6 | hb6
     · obtain ⟨⟨f3, f4, f5, b_b1, l_b1, b_b2, l_b2, b_b3, l_b3, d_b1_b2, d_b1_b3, d_b2_b3⟩, f7, f47, b_b12, l_b12, d_b1_b12, d_b2_b12, d_b3_b12⟩ := q
       rw [hb6] at f47
       replace h := cT hb6 h
       apply eY 9; simp [f3, f4, f5, f7, f47, b_b1, b_b2, b_b3, b_b12]
       exact l0 (hJ6 _ _ _ ⟨true, h, by and_intros <;> first | assumption | simp [f3, f4, f5, f7, f47, b_b1, b_b2, b_b3, b_b12]⟩)
     · obtain ⟨⟨f3, f4, f5, b_b1, l_b1, b_b2, l_b2, b_b3, l_b3, d_b1_b2, d_b1_b3, d_b2_b3⟩, f7, f47, b_b12, l_b12, d_b1_b12, d_b2_b12, d_b3_b12⟩ := q
       rw [hb6] at f47
       replace h := cF hb6 h
       obtain ⟨x23, hx23, h⟩ := bnd h
       apply eY 2; simp [f3, f4, f5, f7, f47, b_b1, b_b2, b_b3, b_b12, ld_36_0_36]
       refine cx (ok_ast_Same F _ _ _ hx23) rfl rfl (by simp [f3, f4, f5, f7, f47, b_b1, b_b2, b_b3, b_b12, ld_36_0_36]) rfl rfl (by simp [f3, f4, f5, f7, f47, b_b1, b_b2, b_b3, b_b12, ld_36_0_36]) (.cons (.free (fr36 _)) (.cons (.free (fr36 _)) (.nil))) rfl ?_
       rintro _ rfl
       obtain ⟨x24, hx24, h⟩ := bnd h
       apply eY 2; simp [f3, f4, f5, f7, f47, b_b1, b_b2, b_b3, b_b12, ld_36_0_36]
       refine cx (ok_ast_Same F _ _ _ hx24) rfl rfl (by simp [f3, f4, f5, f7, f47, b_b1, b_b2, b_b3, b_b12, ld_36_0_36]) rfl rfl (by simp [f3, f4, f5, f7, f47, b_b1, b_b2, b_b3, b_b12, ld_36_0_36]) (.cons (.free (fr36 _)) (.cons (.free (fr36 _)) (.nil))) rfl ?_
       rintro _ rfl
       apply eY 3; simp [f3, f4, f5, f7, f47, b_b1, b_b2, b_b3, b_b12, ld_36_0_36, eqM4]
       exact l0 (hJ6 _ _ _ ⟨(!(x23 == x24)), h, by and_intros <;> first | assumption | simp [f3, f4, f5, f7, f47, b_b1, b_b2, b_b3, b_b12, ld_36_0_36, eqM4]⟩)
   clear q h
   rintro t H n ⟨v22, h, q⟩
   subst hK6
   apply eY 1; simp [q]
   refine gn (fun t H n => Q11_2 a0 a1 a2 b1 b2 b3 t H n ∧ t 7 = .own b12 0 ∧ t 56 = .sc (.bool v22) ∧ H b12 = some (.cells (c36 x11) 36) ∧ b12 < n ∧ b1 ≠ b12 ∧ b2 ≠ b12 ∧ b3 ≠ b12) (by simp [q]) fun t H n q => ?_
   obtain ⟨K7, hK7, h⟩ := jnd h
   refine Stk.jd 6 (fun t H n => ∃ v25 : Bool, K7 v25 = some r ∧ t 3 = .own b1 0 ∧ t 4 = .own b2 0 ∧ t 5 = .own b3 0 ∧ t 62 = .sc (.bool v25) ∧ H b1 = some (.cells (c36 a0) 36) ∧ b1 < n ∧ H b2 = some (.cells (c36 a1) 36) ∧ b2 < n ∧ H b3 = some (.cells (c36 a2) 36) ∧ b3 < n ∧ b1 ≠ b2 ∧ b1 ≠ b3 ∧ b2 ≠ b3) (fun J7 hJ7 => ?_) ?_
   · rcases Bool.eq_false_or_eq_true v22 with hb7 | hb7
     · obtain ⟨⟨f3, f4, f5, b_b1, l_b1, b_b2, l_b2, b_b3, l_b3, d_b1_b2, d_b1_b3, d_b2_b3⟩, f7, f56, b_b12, l_b12, d_b1_b12, d_b2_b12, d_b3_b12⟩ := q
       rw [hb7] at f56
       replace h := cT hb7 h
       apply eY 7; simp [f3, f4, f5, f7, f56, b_b1, b_b2, b_b3, b_b12]
       exact l0 (hJ7 _ _ _ ⟨true, h, by and_intros <;> first | assumption | simp [f3, f4, f5, f7, f56, b_b1, b_b2, b_b3, b_b12]⟩)
     · obtain ⟨⟨f3, f4, f5, b_b1, l_b1, b_b2, l_b2, b_b3, l_b3, d_b1_b2, d_b1_b3, d_b2_b3⟩, f7, f56, b_b12, l_b12, d_b1_b12, d_b2_b12, d_b3_b12⟩ := q
       rw [hb7] at f56
       replace h := cF hb7 h
       obtain ⟨x26, hx26, h⟩ := bnd h
       apply eY 1; simp [f3, f4, f5, f7, f56, b_b1, b_b2, b_b3, b_b12, ld_36_0_36]
       refine cx (ok_ast_Fit F _ _ hx26) rfl rfl (by simp [f3, f4, f5, f7, f56, b_b1, b_b2, b_b3, b_b12, ld_36_0_36]) rfl rfl (by simp [f3, f4, f5, f7, f56, b_b1, b_b2, b_b3, b_b12, ld_36_0_36]) (.cons (.free (fr36 _)) (.nil)) rfl ?_
       rintro _ rfl
       obtain ⟨x27, hx27, h⟩ := bnd h
       apply eY 1; simp [f3, f4, f5, f7, f56, b_b1, b_b2, b_b3, b_b12, ld_36_0_36]
       refine cx (ok_ast_Fit F _ _ hx27) rfl rfl (by simp [f3, f4, f5, f7, f56, b_b1, b_b2, b_b3, b_b12, ld_36_0_36]) rfl rfl (by simp [f3, f4, f5, f7, f56, b_b1, b_b2, b_b3, b_b12, ld_36_0_36]) (.cons (.free (fr36 _)) (.nil)) rfl ?_
       rintro _ rfl
       apply eY 3; simp [f3, f4, f5, f7, f56, b_b1, b_b2, b_b3, b_b12, ld_36_0_36, eqM4]
       exact l0 (hJ7 _ _ _ ⟨(!(x26 == x27)), h, by and_intros <;> first | assumption | simp [f3, f4, f5, f7, f56, b_b1, b_b2, b_b3, b_b12, ld_36_0_36, eqM4]⟩)
   clear q h
   rintro t H n ⟨v25, h, q⟩
   subst hK7
   apply eY 1; simp [q]
   refine cd v25 (by simp [q]) (fun hb28 => ?_) (fun hb28 => ?_)
   ·have h := cT hb28 h
    apply eY 5; simp [q]
    obtain rfl := sj h
    exact (hF hr (by simp [q]) rfl).1
   ·have h := cF hb28 h
    obtain ⟨x29, hx29, h⟩ := bnd h
    apply eY 5; simp [q, ld_36_0_36]
    refine cw (ok_ast_Same F _ _ _ hx29) (by simp [q, ld_36_0_36]) rfl rfl (by simp [q, ld_36_0_36]) (.cons (.free (fr36 _)) (.cons (.free (fr36 _)) (.nil))) rfl ?_
    rintro _ rfl
    apply eY 2; simp [q, ld_36_0_36]
    refine gn (fun t H n => Q11_2 a0 a1 a2 b1 b2 b3 t H n ∧ t 67 = .sc (.bool (!x29))) (by simp [q, ld_36_0_36]) fun t H n q => ?_
    obtain ⟨K8, hK8, h⟩ := jnd h
    refine Stk.jo 5 (fun t H n => ∃ v30 : Bool, K8 v30 = some r ∧ t 3 = .own b1 0 ∧ t 5 = .own b3 0 ∧ t 72 = .sc (.bool v30) ∧ H b1 = some (.cells (c36 a0) 36) ∧ b1 < n ∧ H b3 = some (.cells (c36 a2) 36) ∧ b3 < n ∧ b1 ≠ b3) (fun J8 hJ8 => ?_) ?_
    · rcases Bool.eq_false_or_eq_true (!x29) with hb8 | hb8
      · obtain ⟨⟨f3, f4, f5, b_b1, l_b1, b_b2, l_b2, b_b3, l_b3, d_b1_b2, d_b1_b3, d_b2_b3⟩, f67⟩ := q
        rw [hb8] at f67
        replace h := cT hb8 h
        apply eY 6; simp [f3, f4, f5, f67, b_b1, b_b2, b_b3]
        exact l0 (hJ8 _ _ _ ⟨true, h, by and_intros <;> first | assumption | simp [f3, f4, f5, f67, b_b1, b_b2, b_b3]⟩)
      · obtain ⟨⟨f3, f4, f5, b_b1, l_b1, b_b2, l_b2, b_b3, l_b3, d_b1_b2, d_b1_b3, d_b2_b3⟩, f67⟩ := q
        rw [hb8] at f67
        replace h := cF hb8 h
        obtain ⟨x31, hx31, h⟩ := bnd h
        apply eY 2; simp [f3, f4, f5, f67, b_b1, b_b2, b_b3, ld_36_0_36]
        refine cw (ok_ast_Same F _ _ _ hx31) (by simp [f3, f4, f5, f67, b_b1, b_b2, b_b3, ld_36_0_36]) rfl rfl (by simp [f3, f4, f5, f67, b_b1, b_b2, b_b3, ld_36_0_36]) (.cons (.free (fr36 _)) (.cons (.free (fr36 _)) (.nil))) rfl ?_
        rintro _ rfl
        apply eY 3; simp [f3, f4, f5, f67, b_b1, b_b2, b_b3, ld_36_0_36]
        exact l0 (hJ8 _ _ _ ⟨(!x31), h, by and_intros <;> first | assumption | simp [f3, f4, f5, f67, b_b1, b_b2, b_b3, ld_36_0_36]⟩)
    clear q h
    rintro t H n ⟨v30, h, q⟩
    subst hK8
    apply eY 1; simp [q]
    refine gn (fun t H n => t 3 = .own b1 0 ∧ t 5 = .own b3 0 ∧ t 73 = .sc (.bool v30) ∧ H b1 = some (.cells (c36 a0) 36) ∧ b1 < n ∧ H b3 = some (.cells (c36 a2) 36) ∧ b3 < n ∧ b1 ≠ b3) (by simp [q]) fun t H n q => ?_
    obtain ⟨K9, hK9, h⟩ := jnd h
    refine Stk.jo 4 (fun t H n => ∃ v32 : Bool, K9 v32 = some r ∧ t 77 = .sc (.bool v32)) (fun J9 hJ9 => ?_) ?_
    · rcases Bool.eq_false_or_eq_true v30 with hb9 | hb9
      · obtain ⟨f3, f5, f73, b_b1, l_b1, b_b3, l_b3, d_b1_b3⟩ := q
        rw [hb9] at f73
        replace h := cT hb9 h
        apply eY 5; simp [f3, f5, f73, b_b1, b_b3]
        exact l0 (hJ9 _ _ _ ⟨true, h, by simp [f3, f5, f73, b_b1, b_b3]⟩)
      · obtain ⟨f3, f5, f73, b_b1, l_b1, b_b3, l_b3, d_b1_b3⟩ := q
        rw [hb9] at f73
        replace h := cF hb9 h
        obtain ⟨x33, hx33, h⟩ := bnd h
        apply eY 2; simp [f3, f5, f73, b_b1, b_b3, ld_36_0_36]
        refine cw (ok_ast_Same F _ _ _ hx33) (by simp [f3, f5, f73, b_b1, b_b3, ld_36_0_36]) rfl rfl (by simp [f3, f5, f73, b_b1, b_b3, ld_36_0_36]) (.cons (.free (fr36 _)) (.cons (.free (fr36 _)) (.nil))) rfl ?_
        rintro _ rfl
        apply eY 2; simp [f3, f5, f73, b_b1, b_b3, ld_36_0_36]
        exact l0 (hJ9 _ _ _ ⟨x33, h, by simp [f3, f5, f73, b_b1, b_b3, ld_36_0_36]⟩)
    clear q h
    rintro t H n ⟨v32, h, q⟩
    subst hK9
    apply eY 1; simp [q]
    refine gn (fun t H n => t 78 = .sc (.bool v32)) (by simp [q]) fun t H n q => ?_
    obtain ⟨K10, hK10, h⟩ := jnd h
    refine Stk.jo 2 (fun t H n => ∃ v34 : Bool, K10 v34 = some r ∧ t 80 = .sc (.bool v34)) (fun J10 hJ10 => ?_) ?_
    · rcases Bool.eq_false_or_eq_true v32 with hb10 | hb10
      · have f78 := q
        rw [hb10] at f78
        replace h := cT hb10 h
        obtain ⟨x35, hx35, h⟩ := bnd h
        refine cw (ok_L04_awake F  _ hx35) (by simp [f78]) rfl rfl (by simp [f78]) (.nil) rfl ?_
        rintro _ rfl
        apply eY 2; simp [f78]
        exact l0 (hJ10 _ _ _ ⟨x35, h, by simp [f78]⟩)
      · have f78 := q
        rw [hb10] at f78
        replace h := cF hb10 h
        apply eY 3; simp [f78]
        exact l0 (hJ10 _ _ _ ⟨false, h, by simp [f78]⟩)
    clear q h
    rintro t H n ⟨v34, h, q⟩
    subst hK10
    apply eY 3; simp [q]
    obtain rfl := sj h
    exact (hF hr (by simp [q]) rfl).1
end Go.Proofs.YtappiofmkoelnaaGreatDoor.M
end
section
namespace Go.Proofs.YtappiofmkoelnaaGreatDoor
open Go.Proofs.YtappiofmkoelnaaGreatDoorW.Ah
set_option linter.unusedVariables false
set_option linter.unusedSimpArgs false
theorem typ_int {T : Tab} {t : Nat} {i : TI} {k : IntKind} {cs : List AV} (h : Typ T t cs) (ht : T t = some i) (hk : i.k = .int k) : ∃ n, cs = [.sc (.int k n)] ∧ (Lit.int k n).wf = true := by
 cases h with
 | int n h1 h2 h3 => rw [ht] at h1; cases h1; rw [hk] at h2; cases h2; exact ⟨n, rfl, h3⟩
 | bool b h1 h2 => rw [ht] at h1; cases h1; rw [hk] at h2; cases h2
 | str s h1 h2 => rw [ht] at h1; cases h1; rw [hk] at h2; cases h2
 | slice xs h1 h2 => rw [ht] at h1; cases h1; rw [hk] at h2; cases h2
 | struct ps h1 h2 => rw [ht] at h1; cases h1; rw [hk] at h2; cases h2
 | arr xs h1 h2 => rw [ht] at h1; cases h1; rw [hk] at h2; cases h2
 | other _ hs => have := hs i ht; rw [hk] at this; exact this.elim
theorem typ_struct {T : Tab} {t : Nat} {i : TI} {fs : List (Nat × Nat)} {cs : List AV} (h : Typ T t cs) (ht : T t = some i) (hk : i.k = .struct fs) (hs : ¬ shut T t) :
  ∃ ps : List (List AV), cs = ps.flatten ∧ ps.length = fs.length ∧ ∀ (k : Nat) f p, fs[k]? = some f → ps[k]? = some p → Typ T f.2 p := by
 cases h with
 | struct ps h1 h2 h3 h4 => rw [ht] at h1; cases h1; rw [hk] at h2; cases h2; exact ⟨ps, rfl, h3, h4⟩
 | bool b h1 h2 => rw [ht] at h1; cases h1; rw [hk] at h2; cases h2
 | int n h1 h2 => rw [ht] at h1; cases h1; rw [hk] at h2; cases h2
 | str s h1 h2 => rw [ht] at h1; cases h1; rw [hk] at h2; cases h2
 | slice xs h1 h2 => rw [ht] at h1; cases h1; rw [hk] at h2; cases h2
 | arr xs h1 h2 => rw [ht] at h1; cases h1; rw [hk] at h2; cases h2
 | other _ h1 => exact absurd h1 hs
theorem typ_str {T : Tab} {t : Nat} {i : TI} {cs : List AV} (h : Typ T t cs) (ht : T t = some i) (hk : i.k = .str) : ∃ s : ByteArray, cs = [.sc (.string s)] ∧ s.size ≤ maxLen := by
 cases h with
 | str s h1 h2 h3 => exact ⟨s, rfl, h3⟩
 | bool b h1 h2 => rw [ht] at h1; cases h1; rw [hk] at h2; cases h2
 | int n h1 h2 h3 => rw [ht] at h1; cases h1; rw [hk] at h2; cases h2
 | slice xs h1 h2 => rw [ht] at h1; cases h1; rw [hk] at h2; cases h2
 | struct ps h1 h2 => rw [ht] at h1; cases h1; rw [hk] at h2; cases h2
 | arr xs h1 h2 => rw [ht] at h1; cases h1; rw [hk] at h2; cases h2
 | other _ hs => have := hs i ht; rw [hk] at this; exact this.elim
theorem rows_of {α : Type} {c : α → List AV} {Pr : α → Prop} {T : Tab} {e : Nat} : ∀ {xs : List (List AV)}, (∀ x ∈ xs, Typ T e x) → (∀ cs, Typ T e cs → ∃ x, cs = c x ∧ Pr x) → ∃ ys : List α, xs.flatten = encs c ys ∧ xs.length = ys.length ∧ ∀ y ∈ ys, Pr y
 | [], _, _ => ⟨[], rfl, rfl, fun _ h => by cases h⟩
 | x :: xs, h, hel => by
  obtain ⟨ys, e1, e2, e3⟩ := rows_of (fun y hy => h y (List.mem_cons_of_mem _ hy)) hel
  obtain ⟨y, e4, e5⟩ := hel x (h x List.mem_cons_self)
  refine ⟨y :: ys, by rw [List.flatten_cons, e1, e4, encs_cons], by simp [e2], fun z hz => ?_⟩
  rcases List.mem_cons.1 hz with rfl | h
  ·exact e5
  ·exact e3 z h
theorem rowsR {α : Type} {c : α → List AV} {Pr : α → Prop} : ∀ {xs : List (List AV)}, (∀ x ∈ xs, ∃ y, x = c y ∧ Pr y) → ∃ ys : List α, xs.flatten = encs c ys ∧ xs.length = ys.length ∧ ∀ y ∈ ys, Pr y
 | [], _ => ⟨[], rfl, rfl, fun _ h => by cases h⟩
 | x :: xs, h => by
  obtain ⟨ys, e1, e2, e3⟩ := rowsR (fun y hy => h y (List.mem_cons_of_mem _ hy))
  obtain ⟨y, e4, e5⟩ := h x List.mem_cons_self
  refine ⟨y :: ys, by rw [List.flatten_cons, e1, e4, encs_cons], by simp [e2], fun z hz => ?_⟩
  rcases List.mem_cons.1 hz with rfl | h
  ·exact e5
  ·exact e3 z h
theorem typ_slice {α : Type} (c : α → List AV) (Pr : α → Prop) {T : Tab} {t e : Nat} {i ie : TI} {cs : List AV} (h : Typ T t cs) (ht : T t = some i) (hk : i.k = .slice e) (he : T e = some ie) (hz : 0 < ie.size) (hel : ∀ cs, Typ T e cs → ∃ x, cs = c x ∧ Pr x) (hby : 0 < ie.bytes := by decide) :
  ∃ xs : List α, cs = [.ssl (encs c xs) xs.length false] ∧ xs.length ≤ reachBytes ∧ ∀ x ∈ xs, Pr x := by
 cases h with
 | slice xs h1 h2 h4 h5 h6 h7 h8 =>
  rw [ht] at h1; cases h1; rw [hk] at h2; cases h2; rw [he] at h4; cases h4
  obtain ⟨ys, e1, e2, e3⟩ := rows_of h6 hel
  exact ⟨ys, by rw [e1, e2], by rw [← e2]; exact Nat.le_trans (Nat.le_mul_of_pos_right _ hby) h8.2, e3⟩
 | bool b h1 h2 => rw [ht] at h1; cases h1; rw [hk] at h2; cases h2
 | int n h1 h2 h3 => rw [ht] at h1; cases h1; rw [hk] at h2; cases h2
 | str s h1 h2 => rw [ht] at h1; cases h1; rw [hk] at h2; cases h2
 | struct ps h1 h2 => rw [ht] at h1; cases h1; rw [hk] at h2; cases h2
 | arr xs h1 h2 => rw [ht] at h1; cases h1; rw [hk] at h2; cases h2
 | other _ hs => have := hs i ht; rw [hk] at this; have := this ie he; omega
theorem typA_agg {T : Tab} {t : Nat} {i : TI} {a : AV} (h : TypA T t a) (ht : T t = some i) (hk : aggK i.k = true) : ∃ cs, a = .agg cs ∧ Typ T t cs := by
 obtain ⟨cs, i', h1, h2, h3⟩ := h
 rw [ht] at h1; cases h1
 rw [if_pos hk] at h3
 exact ⟨cs, h3, h2⟩
end Go.Proofs.YtappiofmkoelnaaGreatDoor
end
section
namespace Go.Proofs.YtappiofmkoelnaaGreatDoor.M
open Go.Proofs.YtappiofmkoelnaaGreatDoorW.Ah Go.Proofs.YtappiofmkoelnaaGreatDoor
set_option linter.unusedVariables false
set_option linter.unusedSimpArgs false
set_option maxRecDepth 8000
def W3 (x : Int) : Prop := IntKind.i64.min ≤ x ∧ x ≤ IntKind.i64.max
theorem op3 (cs : List AV) (h : Typ T.T 3 cs) : ∃ x : Int, cs = c3 x ∧ W3 x := by
 obtain ⟨n, rfl, w⟩ := typ_int h T.t3 rfl
 exact ⟨n, rfl, by simpa [Lit.wf, W3] using w⟩
def W28 (x : APos) : Prop := W3 x.Line ∧ W3 x.Col
theorem op28 (cs : List AV) (h : Typ T.T 28 cs) : ∃ x : APos, cs = c28 x ∧ W28 x := by
 obtain ⟨ps, rfl, hl, hf⟩ := typ_struct h T.t28 rfl (fun hs => hs _ T.t28 rfl)
 match ps, hl with
 | [p0, p1], _ =>
  obtain ⟨x0, rfl, w0⟩ := op3 _ (hf 0 _ _ rfl rfl)
  obtain ⟨x1, rfl, w1⟩ := op3 _ (hf 1 _ _ rfl rfl)
  exact ⟨⟨x0, x1⟩, by simp [c28], ⟨w0, w1⟩⟩
def W9 (x : ByteArray) : Prop := x.size ≤ maxLen
theorem op9 (cs : List AV) (h : Typ T.T 9 cs) : ∃ x : ByteArray, cs = c9 x ∧ W9 x := by
 obtain ⟨b, rfl, w⟩ := typ_str h T.t9 rfl
 exact ⟨b, rfl, w⟩
mutual
def W26 : AType → Prop
 | ⟨x0, x1, x2⟩ => W3 x0 ∧ W9 x1 ∧ (x2.length ≤ maxLen ∧ V26 x2)
def V26 : List AType → Prop
 | [] => True
 | x :: xs => W26 x ∧ V26 xs
end
theorem V26_iff : ∀ xs : List AType, V26 xs ↔ ∀ y ∈ xs, W26 y
 | [] => by simp [V26]
 | x :: xs => by simp [V26, V26_iff xs]
def W24 (x : (List AType)) : Prop := x.length ≤ maxLen ∧ ∀ y ∈ x, W26 y
theorem W26_iff (x : AType) : W26 x ↔ W3 x.Kind ∧ W9 x.Name ∧ W24 x.Parts := by
 cases x; simp only [W26, W24, V26_iff]
theorem opR24 {t : Nat} {cs : List AV} (h : Typ T.T t cs) : (t = 24 → ∃ x : (List AType), cs = c24 x ∧ W24 x) ∧ (t = 26 → ∃ x : AType, cs = c26 x ∧ W26 x) := by
 induction h with
 | bool b h1 h2 => exact ⟨(fun e => by subst e; rw [T.t24] at h1; cases h1; cases h2), (fun e => by subst e; rw [T.t26] at h1; cases h1; cases h2)⟩
 | int n h1 h2 h3 => exact ⟨(fun e => by subst e; rw [T.t24] at h1; cases h1; cases h2), (fun e => by subst e; rw [T.t26] at h1; cases h1; cases h2)⟩
 | str s h1 h2 h3 => exact ⟨(fun e => by subst e; rw [T.t24] at h1; cases h1; cases h2), (fun e => by subst e; rw [T.t26] at h1; cases h1; cases h2)⟩
 | arr xs h1 h2 => exact ⟨(fun e => by subst e; rw [T.t24] at h1; cases h1; cases h2), (fun e => by subst e; rw [T.t26] at h1; cases h1; cases h2)⟩
 | slice xs h1 h2 h4 h5 h6 h7 h8 ih =>
  refine ⟨?_, ?_⟩
  ·intro e; subst e; rw [T.t24] at h1; cases h1; cases h2
   obtain ⟨ys, e1, e2, e3⟩ := rowsR (c := c26) (Pr := W26) (fun x hx => (ih x hx).2 rfl)
   exact ⟨ys, by rw [e1, e2], by omega, e3⟩
  ·exact fun e => by subst e; rw [T.t26] at h1; cases h1; cases h2
 | struct ps h1 h2 h3 h4 ih =>
  refine ⟨?_, ?_⟩
  ·exact fun e => by subst e; rw [T.t24] at h1; cases h1; cases h2
  ·intro e; subst e; rw [T.t26] at h1; cases h1; cases h2
   match ps, h3 with
   | [p0, p1, p2], _ =>
    obtain ⟨x0, rfl, w0⟩ := op3 _ (h4 0 _ _ rfl rfl)
    obtain ⟨x1, rfl, w1⟩ := op9 _ (h4 1 _ _ rfl rfl)
    obtain ⟨x2, rfl, w2⟩ := (ih 2 _ _ rfl rfl).1 rfl
    exact ⟨⟨x0, x1, x2⟩, by simp [u26], (W26_iff _).2 ⟨w0, w1, w2⟩⟩
 | other cs hs => exact ⟨(fun e => absurd hs (by subst e; exact (fun hs => absurd (hs _ T.t24 _ T.t26) (by decide)))), (fun e => absurd hs (by subst e; exact (fun hs => hs _ T.t26 rfl)))⟩
theorem op24 (cs : List AV) (h : Typ T.T 24 cs) : ∃ x : (List AType), cs = c24 x ∧ W24 x := (opR24 h).1 rfl
theorem op26 (cs : List AV) (h : Typ T.T 26 cs) : ∃ x : AType, cs = c26 x ∧ W26 x := (opR24 h).2 rfl
def W92 (x : ACon) : Prop := W9 x.Name ∧ W24 x.Fields
theorem op92 (cs : List AV) (h : Typ T.T 92 cs) : ∃ x : ACon, cs = c92 x ∧ W92 x := by
 obtain ⟨ps, rfl, hl, hf⟩ := typ_struct h T.t92 rfl (fun hs => hs _ T.t92 rfl)
 match ps, hl with
 | [p0, p1], _ =>
  obtain ⟨x0, rfl, w0⟩ := op9 _ (hf 0 _ _ rfl rfl)
  obtain ⟨x1, rfl, w1⟩ := op24 _ (hf 1 _ _ rfl rfl)
  exact ⟨⟨x0, x1⟩, by simp [c92], ⟨w0, w1⟩⟩
def W70 (x : (List ACon)) : Prop := x.length ≤ reachBytes ∧ ∀ y ∈ x, W92 y
theorem op70 (cs : List AV) (h : Typ T.T 70 cs) : ∃ x : (List ACon), cs = c70 x ∧ W70 x := by
 obtain ⟨x, rfl, w⟩ := typ_slice c92 W92 h T.t70 rfl T.t92 (by decide) op92
 exact ⟨x, rfl, w⟩
def W72 (x : AData) : Prop := W28 x.At ∧ W9 x.Name ∧ W70 x.Cons
theorem op72 (cs : List AV) (h : Typ T.T 72 cs) : ∃ x : AData, cs = c72 x ∧ W72 x := by
 obtain ⟨ps, rfl, hl, hf⟩ := typ_struct h T.t72 rfl (fun hs => hs _ T.t72 rfl)
 match ps, hl with
 | [p0, p1, p2], _ =>
  obtain ⟨x0, rfl, w0⟩ := op28 _ (hf 0 _ _ rfl rfl)
  obtain ⟨x1, rfl, w1⟩ := op9 _ (hf 1 _ _ rfl rfl)
  obtain ⟨x2, rfl, w2⟩ := op70 _ (hf 2 _ _ rfl rfl)
  exact ⟨⟨x0, x1, x2⟩, by simp [c72], ⟨w0, w1, w2⟩⟩
def W22 (x : (List AData)) : Prop := x.length ≤ reachBytes ∧ ∀ y ∈ x, W72 y
theorem op22 (cs : List AV) (h : Typ T.T 22 cs) : ∃ x : (List AData), cs = c22 x ∧ W22 x := by
 obtain ⟨x, rfl, w⟩ := typ_slice c72 W72 h T.t22 rfl T.t72 (by decide) op72
 exact ⟨x, rfl, w⟩
def W81 (x : AParam) : Prop := W9 x.Name ∧ W26 x.Type_
theorem op81 (cs : List AV) (h : Typ T.T 81 cs) : ∃ x : AParam, cs = c81 x ∧ W81 x := by
 obtain ⟨ps, rfl, hl, hf⟩ := typ_struct h T.t81 rfl (fun hs => hs _ T.t81 rfl)
 match ps, hl with
 | [p0, p1], _ =>
  obtain ⟨x0, rfl, w0⟩ := op9 _ (hf 0 _ _ rfl rfl)
  obtain ⟨x1, rfl, w1⟩ := op26 _ (hf 1 _ _ rfl rfl)
  exact ⟨⟨x0, x1⟩, by simp [c81], ⟨w0, w1⟩⟩
def W75 (x : (List AParam)) : Prop := x.length ≤ reachBytes ∧ ∀ y ∈ x, W81 y
theorem op75 (cs : List AV) (h : Typ T.T 75 cs) : ∃ x : (List AParam), cs = c75 x ∧ W75 x := by
 obtain ⟨x, rfl, w⟩ := typ_slice c81 W81 h T.t75 rfl T.t81 (by decide) op81
 exact ⟨x, rfl, w⟩
def W2 (x : Int) : Prop := IntKind.i64.min ≤ x ∧ x ≤ IntKind.i64.max
theorem op2 (cs : List AV) (h : Typ T.T 2 cs) : ∃ x : Int, cs = c2 x ∧ W2 x := by
 obtain ⟨n, rfl, w⟩ := typ_int h T.t2 rfl
 exact ⟨n, rfl, by simpa [Lit.wf, W2] using w⟩
def W5 (x : Int) : Prop := IntKind.u8.min ≤ x ∧ x ≤ IntKind.u8.max
theorem op5 (cs : List AV) (h : Typ T.T 5 cs) : ∃ x : Int, cs = c5 x ∧ W5 x := by
 obtain ⟨n, rfl, w⟩ := typ_int h T.t5 rfl
 exact ⟨n, rfl, by simpa [Lit.wf, W5] using w⟩
def W29 (x : (List Int)) : Prop := x.length ≤ reachBytes ∧ ∀ y ∈ x, W5 y
theorem op29 (cs : List AV) (h : Typ T.T 29 cs) : ∃ x : (List Int), cs = c29 x ∧ W29 x := by
 obtain ⟨x, rfl, w⟩ := typ_slice c5 W5 h T.t29 rfl T.t5 (by decide) op5
 exact ⟨x, rfl, w⟩
mutual
def W39 : APat → Prop
 | ⟨x0, x1, x2, x3, x4⟩ => W3 x0 ∧ W28 x1 ∧ W9 x2 ∧ W2 x3 ∧ (x4.length ≤ maxLen ∧ V39 x4)
def V39 : List APat → Prop
 | [] => True
 | x :: xs => W39 x ∧ V39 xs
end
theorem V39_iff : ∀ xs : List APat, V39 xs ↔ ∀ y ∈ xs, W39 y
 | [] => by simp [V39]
 | x :: xs => by simp [V39, V39_iff xs]
def W37 (x : (List APat)) : Prop := x.length ≤ maxLen ∧ ∀ y ∈ x, W39 y
theorem W39_iff (x : APat) : W39 x ↔ W3 x.Kind ∧ W28 x.At ∧ W9 x.Name ∧ W2 x.Num ∧ W37 x.Kids := by
 cases x; simp only [W39, W37, V39_iff]
theorem opR37 {t : Nat} {cs : List AV} (h : Typ T.T t cs) : (t = 37 → ∃ x : (List APat), cs = c37 x ∧ W37 x) ∧ (t = 39 → ∃ x : APat, cs = c39 x ∧ W39 x) := by
 induction h with
 | bool b h1 h2 => exact ⟨(fun e => by subst e; rw [T.t37] at h1; cases h1; cases h2), (fun e => by subst e; rw [T.t39] at h1; cases h1; cases h2)⟩
 | int n h1 h2 h3 => exact ⟨(fun e => by subst e; rw [T.t37] at h1; cases h1; cases h2), (fun e => by subst e; rw [T.t39] at h1; cases h1; cases h2)⟩
 | str s h1 h2 h3 => exact ⟨(fun e => by subst e; rw [T.t37] at h1; cases h1; cases h2), (fun e => by subst e; rw [T.t39] at h1; cases h1; cases h2)⟩
 | arr xs h1 h2 => exact ⟨(fun e => by subst e; rw [T.t37] at h1; cases h1; cases h2), (fun e => by subst e; rw [T.t39] at h1; cases h1; cases h2)⟩
 | slice xs h1 h2 h4 h5 h6 h7 h8 ih =>
  refine ⟨?_, ?_⟩
  ·intro e; subst e; rw [T.t37] at h1; cases h1; cases h2
   obtain ⟨ys, e1, e2, e3⟩ := rowsR (c := c39) (Pr := W39) (fun x hx => (ih x hx).2 rfl)
   exact ⟨ys, by rw [e1, e2], by omega, e3⟩
  ·exact fun e => by subst e; rw [T.t39] at h1; cases h1; cases h2
 | struct ps h1 h2 h3 h4 ih =>
  refine ⟨?_, ?_⟩
  ·exact fun e => by subst e; rw [T.t37] at h1; cases h1; cases h2
  ·intro e; subst e; rw [T.t39] at h1; cases h1; cases h2
   match ps, h3 with
   | [p0, p1, p2, p3, p4], _ =>
    obtain ⟨x0, rfl, w0⟩ := op3 _ (h4 0 _ _ rfl rfl)
    obtain ⟨x1, rfl, w1⟩ := op28 _ (h4 1 _ _ rfl rfl)
    obtain ⟨x2, rfl, w2⟩ := op9 _ (h4 2 _ _ rfl rfl)
    obtain ⟨x3, rfl, w3⟩ := op2 _ (h4 3 _ _ rfl rfl)
    obtain ⟨x4, rfl, w4⟩ := (ih 4 _ _ rfl rfl).1 rfl
    exact ⟨⟨x0, x1, x2, x3, x4⟩, by simp [u39], (W39_iff _).2 ⟨w0, w1, w2, w3, w4⟩⟩
 | other cs hs => exact ⟨(fun e => absurd hs (by subst e; exact (fun hs => absurd (hs _ T.t37 _ T.t39) (by decide)))), (fun e => absurd hs (by subst e; exact (fun hs => hs _ T.t39 rfl)))⟩
theorem op39 (cs : List AV) (h : Typ T.T 39 cs) : ∃ x : APat, cs = c39 x ∧ W39 x := (opR37 h).2 rfl
mutual
def W33 : AExpr → Prop
 | ⟨x0, x1, x2, x3, x4, x5, x6⟩ => W3 x0 ∧ W28 x1 ∧ W2 x2 ∧ W29 x3 ∧ W9 x4 ∧ (x5.length ≤ maxLen ∧ V33 x5) ∧ (x6.length ≤ maxLen ∧ V68 x6)
def W68 : AArm → Prop
 | ⟨x0, x1⟩ => W39 x0 ∧ W33 x1
def V33 : List AExpr → Prop
 | [] => True
 | x :: xs => W33 x ∧ V33 xs
def V68 : List AArm → Prop
 | [] => True
 | x :: xs => W68 x ∧ V68 xs
end
theorem V33_iff : ∀ xs : List AExpr, V33 xs ↔ ∀ y ∈ xs, W33 y
 | [] => by simp [V33]
 | x :: xs => by simp [V33, V33_iff xs]
theorem V68_iff : ∀ xs : List AArm, V68 xs ↔ ∀ y ∈ xs, W68 y
 | [] => by simp [V68]
 | x :: xs => by simp [V68, V68_iff xs]
def W30 (x : (List AExpr)) : Prop := x.length ≤ maxLen ∧ ∀ y ∈ x, W33 y
def W31 (x : (List AArm)) : Prop := x.length ≤ maxLen ∧ ∀ y ∈ x, W68 y
theorem W33_iff (x : AExpr) : W33 x ↔ W3 x.Kind ∧ W28 x.At ∧ W2 x.Num ∧ W29 x.Bytes ∧ W9 x.Name ∧ W30 x.Kids ∧ W31 x.Arms := by
 cases x; simp only [W33, W30, W31, V33_iff, V68_iff]
theorem W68_iff (x : AArm) : W68 x ↔ W39 x.Pat ∧ W33 x.Body := by
 cases x; simp only [W68, W30, W31, V33_iff, V68_iff]
theorem opR30 {t : Nat} {cs : List AV} (h : Typ T.T t cs) : (t = 30 → ∃ x : (List AExpr), cs = c30 x ∧ W30 x) ∧ (t = 31 → ∃ x : (List AArm), cs = c31 x ∧ W31 x) ∧ (t = 33 → ∃ x : AExpr, cs = c33 x ∧ W33 x) ∧ (t = 68 → ∃ x : AArm, cs = c68 x ∧ W68 x) := by
 induction h with
 | bool b h1 h2 => exact ⟨(fun e => by subst e; rw [T.t30] at h1; cases h1; cases h2), (fun e => by subst e; rw [T.t31] at h1; cases h1; cases h2), (fun e => by subst e; rw [T.t33] at h1; cases h1; cases h2), (fun e => by subst e; rw [T.t68] at h1; cases h1; cases h2)⟩
 | int n h1 h2 h3 => exact ⟨(fun e => by subst e; rw [T.t30] at h1; cases h1; cases h2), (fun e => by subst e; rw [T.t31] at h1; cases h1; cases h2), (fun e => by subst e; rw [T.t33] at h1; cases h1; cases h2), (fun e => by subst e; rw [T.t68] at h1; cases h1; cases h2)⟩
 | str s h1 h2 h3 => exact ⟨(fun e => by subst e; rw [T.t30] at h1; cases h1; cases h2), (fun e => by subst e; rw [T.t31] at h1; cases h1; cases h2), (fun e => by subst e; rw [T.t33] at h1; cases h1; cases h2), (fun e => by subst e; rw [T.t68] at h1; cases h1; cases h2)⟩
 | arr xs h1 h2 => exact ⟨(fun e => by subst e; rw [T.t30] at h1; cases h1; cases h2), (fun e => by subst e; rw [T.t31] at h1; cases h1; cases h2), (fun e => by subst e; rw [T.t33] at h1; cases h1; cases h2), (fun e => by subst e; rw [T.t68] at h1; cases h1; cases h2)⟩
 | slice xs h1 h2 h4 h5 h6 h7 h8 ih =>
  refine ⟨?_, ?_, ?_, ?_⟩
  ·intro e; subst e; rw [T.t30] at h1; cases h1; cases h2
   obtain ⟨ys, e1, e2, e3⟩ := rowsR (c := c33) (Pr := W33) (fun x hx => (ih x hx).2.2.1 rfl)
   exact ⟨ys, by rw [e1, e2], by omega, e3⟩
  ·intro e; subst e; rw [T.t31] at h1; cases h1; cases h2
   obtain ⟨ys, e1, e2, e3⟩ := rowsR (c := c68) (Pr := W68) (fun x hx => (ih x hx).2.2.2 rfl)
   exact ⟨ys, by rw [e1, e2], by omega, e3⟩
  ·exact fun e => by subst e; rw [T.t33] at h1; cases h1; cases h2
  ·exact fun e => by subst e; rw [T.t68] at h1; cases h1; cases h2
 | struct ps h1 h2 h3 h4 ih =>
  refine ⟨?_, ?_, ?_, ?_⟩
  ·exact fun e => by subst e; rw [T.t30] at h1; cases h1; cases h2
  ·exact fun e => by subst e; rw [T.t31] at h1; cases h1; cases h2
  ·intro e; subst e; rw [T.t33] at h1; cases h1; cases h2
   match ps, h3 with
   | [p0, p1, p2, p3, p4, p5, p6], _ =>
    obtain ⟨x0, rfl, w0⟩ := op3 _ (h4 0 _ _ rfl rfl)
    obtain ⟨x1, rfl, w1⟩ := op28 _ (h4 1 _ _ rfl rfl)
    obtain ⟨x2, rfl, w2⟩ := op2 _ (h4 2 _ _ rfl rfl)
    obtain ⟨x3, rfl, w3⟩ := op29 _ (h4 3 _ _ rfl rfl)
    obtain ⟨x4, rfl, w4⟩ := op9 _ (h4 4 _ _ rfl rfl)
    obtain ⟨x5, rfl, w5⟩ := (ih 5 _ _ rfl rfl).1 rfl
    obtain ⟨x6, rfl, w6⟩ := (ih 6 _ _ rfl rfl).2.1 rfl
    exact ⟨⟨x0, x1, x2, x3, x4, x5, x6⟩, by simp [u33], (W33_iff _).2 ⟨w0, w1, w2, w3, w4, w5, w6⟩⟩
  ·intro e; subst e; rw [T.t68] at h1; cases h1; cases h2
   match ps, h3 with
   | [p0, p1], _ =>
    obtain ⟨x0, rfl, w0⟩ := op39 _ (h4 0 _ _ rfl rfl)
    obtain ⟨x1, rfl, w1⟩ := (ih 1 _ _ rfl rfl).2.2.1 rfl
    exact ⟨⟨x0, x1⟩, by simp [u68], (W68_iff _).2 ⟨w0, w1⟩⟩
 | other cs hs => exact ⟨(fun e => absurd hs (by subst e; exact (fun hs => absurd (hs _ T.t30 _ T.t33) (by decide)))), (fun e => absurd hs (by subst e; exact (fun hs => absurd (hs _ T.t31 _ T.t68) (by decide)))), (fun e => absurd hs (by subst e; exact (fun hs => hs _ T.t33 rfl))), (fun e => absurd hs (by subst e; exact (fun hs => hs _ T.t68 rfl)))⟩
theorem op33 (cs : List AV) (h : Typ T.T 33 cs) : ∃ x : AExpr, cs = c33 x ∧ W33 x := (opR30 h).2.2.1 rfl
def W77 (x : AFun) : Prop := W28 x.At ∧ W9 x.Name ∧ W75 x.Params ∧ W26 x.Result ∧ W33 x.Body
theorem op77 (cs : List AV) (h : Typ T.T 77 cs) : ∃ x : AFun, cs = c77 x ∧ W77 x := by
 obtain ⟨ps, rfl, hl, hf⟩ := typ_struct h T.t77 rfl (fun hs => hs _ T.t77 rfl)
 match ps, hl with
 | [p0, p1, p2, p3, p4], _ =>
  obtain ⟨x0, rfl, w0⟩ := op28 _ (hf 0 _ _ rfl rfl)
  obtain ⟨x1, rfl, w1⟩ := op9 _ (hf 1 _ _ rfl rfl)
  obtain ⟨x2, rfl, w2⟩ := op75 _ (hf 2 _ _ rfl rfl)
  obtain ⟨x3, rfl, w3⟩ := op26 _ (hf 3 _ _ rfl rfl)
  obtain ⟨x4, rfl, w4⟩ := op33 _ (hf 4 _ _ rfl rfl)
  exact ⟨⟨x0, x1, x2, x3, x4⟩, by simp [c77], ⟨w0, w1, w2, w3, w4⟩⟩
def W23 (x : (List AFun)) : Prop := x.length ≤ reachBytes ∧ ∀ y ∈ x, W77 y
theorem op23 (cs : List AV) (h : Typ T.T 23 cs) : ∃ x : (List AFun), cs = c23 x ∧ W23 x := by
 obtain ⟨x, rfl, w⟩ := typ_slice c77 W77 h T.t23 rfl T.t77 (by decide) op77
 exact ⟨x, rfl, w⟩
def W83 (x : AHand) : Prop := W28 x.At ∧ W9 x.Name ∧ W81 x.Param ∧ W3 x.Cap ∧ W33 x.Body
theorem op83 (cs : List AV) (h : Typ T.T 83 cs) : ∃ x : AHand, cs = c83 x ∧ W83 x := by
 obtain ⟨ps, rfl, hl, hf⟩ := typ_struct h T.t83 rfl (fun hs => hs _ T.t83 rfl)
 match ps, hl with
 | [p0, p1, p2, p3, p4], _ =>
  obtain ⟨x0, rfl, w0⟩ := op28 _ (hf 0 _ _ rfl rfl)
  obtain ⟨x1, rfl, w1⟩ := op9 _ (hf 1 _ _ rfl rfl)
  obtain ⟨x2, rfl, w2⟩ := op81 _ (hf 2 _ _ rfl rfl)
  obtain ⟨x3, rfl, w3⟩ := op3 _ (hf 3 _ _ rfl rfl)
  obtain ⟨x4, rfl, w4⟩ := op33 _ (hf 4 _ _ rfl rfl)
  exact ⟨⟨x0, x1, x2, x3, x4⟩, by simp [c83], ⟨w0, w1, w2, w3, w4⟩⟩
def W34 (x : (List AHand)) : Prop := x.length ≤ reachBytes ∧ ∀ y ∈ x, W83 y
theorem op34 (cs : List AV) (h : Typ T.T 34 cs) : ∃ x : (List AHand), cs = c34 x ∧ W34 x := by
 obtain ⟨x, rfl, w⟩ := typ_slice c83 W83 h T.t34 rfl T.t83 (by decide) op83
 exact ⟨x, rfl, w⟩
def W36 (x : AProg) : Prop := W22 x.Datas ∧ W23 x.Funs ∧ W3 x.Queue ∧ W3 x.Timers ∧ W26 x.State ∧ W3 x.Cap ∧ W33 x.Init ∧ W34 x.Hands
theorem op36 (cs : List AV) (h : Typ T.T 36 cs) : ∃ x : AProg, cs = c36 x ∧ W36 x := by
 obtain ⟨ps, rfl, hl, hf⟩ := typ_struct h T.t36 rfl (fun hs => hs _ T.t36 rfl)
 match ps, hl with
 | [p0, p1, p2, p3, p4, p5, p6, p7], _ =>
  obtain ⟨x0, rfl, w0⟩ := op22 _ (hf 0 _ _ rfl rfl)
  obtain ⟨x1, rfl, w1⟩ := op23 _ (hf 1 _ _ rfl rfl)
  obtain ⟨x2, rfl, w2⟩ := op3 _ (hf 2 _ _ rfl rfl)
  obtain ⟨x3, rfl, w3⟩ := op3 _ (hf 3 _ _ rfl rfl)
  obtain ⟨x4, rfl, w4⟩ := op26 _ (hf 4 _ _ rfl rfl)
  obtain ⟨x5, rfl, w5⟩ := op3 _ (hf 5 _ _ rfl rfl)
  obtain ⟨x6, rfl, w6⟩ := op33 _ (hf 6 _ _ rfl rfl)
  obtain ⟨x7, rfl, w7⟩ := op34 _ (hf 7 _ _ rfl rfl)
  exact ⟨⟨x0, x1, x2, x3, x4, x5, x6, x7⟩, by simp [c36], ⟨w0, w1, w2, w3, w4, w5, w6, w7⟩⟩
theorem oa36 (a : AV) (h : TypA T.T 36 a) : ∃ x : AProg, a = .agg (c36 x) ∧ W36 x := by
 obtain ⟨cs, rfl, h2⟩ := typA_agg h T.t36 rfl
 obtain ⟨x, rfl, w⟩ := op36 _ h2
 exact ⟨x, rfl, w⟩
end Go.Proofs.YtappiofmkoelnaaGreatDoor.M
end
section
namespace Go.Proofs.YtappiofmkoelnaaGreatDoor.M
open Go.Proofs.YtappiofmkoelnaaGreatDoorW.Ah Go.Proofs.YtappiofmkoelnaaGreatDoor
set_option linter.unusedVariables false
set_option linter.unusedSimpArgs false
theorem idx_nat {α : Type} (xs : List α) (k : Nat) : idx xs (k : Int) = xs[k]? := by simp [idx]
theorem wrapS (n : Nat) (h : n < 9223372036854775807) : IntKind.i64.wrap ((n : Int) + 1) = ((n + 1 : Nat) : Int) := wrap_succ n (by omega)
theorem wrap_ok {x : Int} (h1 : -9223372036854775808 ≤ x) (h2 : x ≤ 9223372036854775807) : IntKind.i64.wrap x = x := wrap64_id h1 (by omega)
theorem big {n : Nat} (h : n ≤ maxLen) : n ≤ 9223372036854775807 := Nat.le_trans h (by decide)
theorem rl {n : Nat} (h : n ≤ reachBytes) : n ≤ maxLen := Nat.le_trans h (by decide)
def Evt (p : Nat → Prop) : Prop := ∃ N, ∀ F, N ≤ F → p F
theorem Evt.of {p : Nat → Prop} (h : ∀ F, p F) : Evt p := ⟨0, fun F _ => h F⟩
theorem Evt.ge (n : Nat) : Evt (fun F => n ≤ F) := ⟨n, fun _ h => h⟩
theorem Evt.and {p q : Nat → Prop} (h : Evt p) (g : Evt q) : Evt (fun F => p F ∧ q F) :=
 let ⟨a, ha⟩ := h; let ⟨b, hb⟩ := g; ⟨max a b, fun F hF => ⟨ha F (by omega), hb F (by omega)⟩⟩
theorem Evt.mono {p q : Nat → Prop} (h : Evt p) (g : ∀ F, p F → q F) : Evt q := let ⟨a, ha⟩ := h; ⟨a, fun F hF => g F (ha F hF)⟩
theorem Evt.all {α : Type} {p : α → Nat → Prop} : ∀ {l : List α}, (∀ x ∈ l, Evt (p x)) → Evt (fun F => ∀ x ∈ l, p x F)
 | [], _ => .of fun F x hx => by cases hx
 | a :: l, h => ((h a (by simp)).and (Evt.all (l := l) fun x hx => h x (by simp [hx]))).mono fun F ⟨h1, h2⟩ x hx => by
  rcases List.mem_cons.1 hx with rfl | hx
  ·exact h1
  ·exact h2 x hx
theorem Evt.succ {p : Nat → Prop} (h : Evt p) : Evt (fun F => ∃ F', F = F' + 1 ∧ p F') := let ⟨a, ha⟩ := h; ⟨a + 1, fun F hF => ⟨F - 1, by omega, ha _ (by omega)⟩⟩
theorem Evt.ex {p : Nat → Prop} (h : Evt p) : ∃ F, p F := let ⟨a, ha⟩ := h; ⟨a, ha a (Nat.le_refl _)⟩
theorem loop_go {α σ β : Type} (xs : List α) (f : Nat → σ → Int → Option β) (P : Nat → σ → Prop) (R : Option β → Prop)
  (hend : ∀ n s, P xs.length s → R (f (n + 1) s (xs.length : Int)))
  (hstep : ∀ n s k x, xs[k]? = some x → P k s → (∀ s', P (k + 1) s' → R (f n s' ((k + 1 : Nat) : Int))) → R (f (n + 1) s (k : Int))) :
  ∀ (m n : Nat) (s : σ) (k : Nat), xs.length = k + m → m < n → P k s → R (f n s (k : Int))
 | 0, 0, s, k, _, hn, _ => by omega
 | 0, n + 1, s, k, e, _, hp => by
  rw [Nat.add_zero] at e
  subst e
  exact hend n s hp
 | m + 1, 0, s, k, _, hn, _ => by omega
 | m + 1, n + 1, s, k, e, hn, hp => by
  obtain ⟨x, hx⟩ : ∃ x, xs[k]? = some x := ⟨xs[k]'(by omega), by simp⟩
  exact hstep n s k x hx hp fun s' hs' => loop_go xs f P R hend hstep m n s' (k + 1) (by omega) (by omega) hs'
theorem loop_ok {α σ β : Type} (xs : List α) (f : Nat → σ → Int → Option β) (P : Nat → σ → Prop) (R : Option β → Prop)
  (hend : ∀ n s, P xs.length s → R (f (n + 1) s (xs.length : Int)))
  (hstep : ∀ n s k x, xs[k]? = some x → P k s → (∀ s', P (k + 1) s' → R (f n s' ((k + 1 : Nat) : Int))) → R (f (n + 1) s (k : Int)))
  (n : Nat) (s : σ) (hn : xs.length < n) (hp : P 0 s) : R (f n s 0) := by
 have := loop_go xs f P R hend hstep xs.length n s 0 (by omega) hn hp
 simpa using this
theorem lt_of_get {α : Type} {xs : List α} {k : Nat} {x : α} (h : xs[k]? = some x) : k < xs.length := (List.getElem?_eq_some_iff.1 h).1
theorem dec_lt {α : Type} {xs : List α} {k : Nat} {x : α} (h : xs[k]? = some x) : decide ((k : Int) < (xs.length : Int)) = true := by have := lt_of_get h; simp; omega
theorem dec_end {α : Type} (xs : List α) : decide ((xs.length : Int) < (xs.length : Int)) = false := by simp
theorem wrapK {α : Type} {xs : List α} {k : Nat} {x : α} (h : xs[k]? = some x) (hl : xs.length ≤ maxLen) : IntKind.i64.wrap ((k : Int) + 1) = ((k + 1 : Nat) : Int) := wrapS k (by have := lt_of_get h; have := big hl; omega)
theorem take_next {α : Type} {xs : List α} {k : Nat} {x : α} (h : xs[k]? = some x) : xs.take (k + 1) = xs.take k ++ [x] := by
 rw [List.take_add_one, h]; rfl
def sumW {α : Type} (w : α → Nat) : List α → Nat
 | [] => 0
 | x :: xs => w x + sumW w xs
theorem sumW_append {α : Type} (w : α → Nat) : ∀ xs ys : List α, sumW w (xs ++ ys) = sumW w xs + sumW w ys
 | [], ys => by simp [sumW]
 | x :: xs, ys => by simp only [List.cons_append, sumW, sumW_append w xs ys]; omega
theorem sumW_mem {α : Type} {w : α → Nat} : ∀ {xs : List α} {x : α}, x ∈ xs → w x ≤ sumW w xs
 | y :: xs, x, h => by
  simp only [sumW]
  rcases List.mem_cons.1 h with rfl | h
  ·omega
  ·have := sumW_mem (w := w) h; omega
theorem sumW_len {α : Type} {w : α → Nat} (h : ∀ x, 1 ≤ w x) : ∀ xs : List α, xs.length ≤ sumW w xs
 | [] => by simp
 | x :: xs => by have := sumW_len h xs; have := h x; simp only [List.length_cons, sumW]; omega
mutual
def szT : AType → Nat
 | ⟨_, _, ps⟩ => 1 + szTs ps
def szTs : List AType → Nat
 | [] => 0
 | x :: xs => szT x + szTs xs
end
theorem szTs_sum : ∀ l, szTs l = sumW szT l
 | [] => rfl
 | x :: xs => by simp only [szTs, sumW, szTs_sum xs]
theorem szT_eq (t : AType) : szT t = 1 + sumW szT t.Parts := by cases t; simp [szT, szTs_sum]
mutual
def szP : APat → Nat
 | ⟨_, _, _, _, ps⟩ => 1 + szPs ps
def szPs : List APat → Nat
 | [] => 0
 | x :: xs => szP x + szPs xs
end
theorem szPs_sum : ∀ l, szPs l = sumW szP l
 | [] => rfl
 | x :: xs => by simp only [szPs, sumW, szPs_sum xs]
theorem szP_eq (t : APat) : szP t = 1 + sumW szP t.Kids := by cases t; simp [szP, szPs_sum]
mutual
def szE : AExpr → Nat
 | ⟨_, _, _, bs, _, ks, as''⟩ => 1 + bs.length + szEs ks + szAs as''
def szA : AArm → Nat
 | ⟨p, b⟩ => szP p + szE b
def szEs : List AExpr → Nat
 | [] => 0
 | x :: xs => szE x + szEs xs
def szAs : List AArm → Nat
 | [] => 0
 | x :: xs => szA x + szAs xs
end
theorem szEs_sum : ∀ l, szEs l = sumW szE l
 | [] => by simp only [szEs, sumW]
 | x :: xs => by simp only [szEs, sumW, szEs_sum xs]
theorem szAs_sum : ∀ l, szAs l = sumW szA l
 | [] => by simp only [szAs, sumW]
 | x :: xs => by simp only [szAs, sumW, szAs_sum xs]
theorem szE_eq (t : AExpr) : szE t = 1 + t.Bytes.length + sumW szE t.Kids + sumW szA t.Arms := by cases t; simp only [szE, szEs_sum, szAs_sum]
theorem szA_eq (t : AArm) : szA t = szP t.Pat + szE t.Body := by cases t; simp only [szA]
def Off (c lo : Int) (w : Nat) (v : Int) (o : Option Int) : Prop := ∃ r, o = some r ∧ (0 ≤ v → lo ≤ r) ∧ (v < 0 → v - c ≤ r) ∧ r ≤ v - 1 ∧ (0 ≤ r → (w : Int) ≤ v - r)
abbrev OffT := Off 1048577 (-1048577)
abbrev OffE := Off 2097153 (-3145730)
def Left (v : Int) : Prop := -1099511627776 ≤ v ∧ v ≤ 1048576
theorem name_part (n : Nat) : 0 ≤ (if 1048576 < (n : Int) then 1048576 else (n : Int)) ∧ (if 1048576 < (n : Int) then 1048576 else (n : Int)) ≤ 1048576 ∧ ((if 1048576 < (n : Int) then 1048576 else (n : Int)) < 1048576 → (if 1048576 < (n : Int) then 1048576 else (n : Int)) = n) := by
 split <;> omega
theorem sumL {α β : Type} (lo : Int) (hlo : lo ≤ 0) (xs : List α) (w : α → Nat) (f : Nat → Int → Int → Option β) (step : α → Int → Option Int) (K : Int → Option β) (R : Option β → Prop)
  (hf : ∀ m s v, f (m + 1) s v = bif ((decide (v < (xs.length : Int))) && (decide (0 ≤ s))) then ((idx xs v).bind fun x => (step x s).bind fun s' => f m s' (IntKind.i64.wrap (v + 1))) else K s)
  (hstep : ∀ x ∈ xs, ∀ s, 0 ≤ s → s ≤ 1048576 → ∃ r, step x s = some r ∧ lo ≤ r ∧ r ≤ s ∧ (0 ≤ r → (w x : Int) ≤ s - r)) (hl : xs.length ≤ maxLen) (n : Nat) (hn : xs.length < n) (s0 : Int) (hs : s0 ≤ 1048576)
  (hK : ∀ s, s ≤ s0 → (0 ≤ s0 → lo ≤ s) → (s0 < 0 → s = s0) → (0 ≤ s → (sumW w xs : Int) ≤ s0 - s) → R (K s)) : R (f n s0 0) := by
 refine loop_ok xs f (fun k s => s ≤ s0 ∧ (0 ≤ s0 → lo ≤ s) ∧ (s0 < 0 → s = s0) ∧ (0 ≤ s → (sumW w (xs.take k) : Int) ≤ s0 - s)) R ?_ ?_ n s0 hn ⟨Int.le_refl _, by omega, fun _ => rfl, fun h => by simp [sumW]⟩
 ·intro n s ⟨p1, p2, p3, p4⟩
  rw [hf, dec_end, Bool.false_and, cond_false]
  rw [List.take_length] at p4
  exact hK s p1 p2 p3 p4
 ·intro n s k x hx ⟨p1, p2, p3, p4⟩ next
  rw [hf, dec_lt hx, Bool.true_and]
  by_cases h0 : 0 ≤ s
  ·rw [decide_eq_true h0, cond_true, idx_nat, hx, Option.bind_some]
   obtain ⟨r, hr, q1, q2, q3⟩ := hstep x (List.mem_of_getElem? hx) s h0 (by omega)
   rw [hr, Option.bind_some, wrapK hx hl]
   refine next r ⟨by omega, fun _ => q1, by omega, fun h => ?_⟩
   rw [take_next hx, sumW_append]
   simp only [sumW]
   have := p4 h0
   have := q3 h
   omega
  ·rw [decide_eq_false h0, cond_false]
   exact hK s p1 p2 p3 (fun h => absurd h h0)
theorem lightType_ok : ∀ (t : AType), W26 t → Evt fun F => ∀ v, Left v → OffT (szT t) v (R04_LightType F t v)
 | ⟨kd, nm, parts⟩, hw => by
  obtain ⟨_, _, hl, hp⟩ := (W26_iff _).1 hw
  have ih : ∀ p ∈ parts, Evt fun F => ∀ v, Left v → OffT (szT p) v (R04_LightType F p v) := fun p hpm => lightType_ok p (hp p hpm)
  refine (((Evt.all ih).and (Evt.ge (parts.length + 1))).succ).mono ?_
  rintro F ⟨F', rfl, h1, h2⟩ v hv
  rw [R04_LightType, R04_LightType_B, szT_eq]
  have hn := name_part nm.size
  unfold Left at hv
  rw [wrap_ok (x := v - 1) (by omega) (by omega), wrap_ok (by dsimp only; omega) (by dsimp only; omega)]
  dsimp only
  refine sumL (-1048577) (by decide) parts szT (fun n s k => R04_LightType_L0 F' (R04_LightType F') ⟨kd, nm, parts⟩ n s k) (fun x s => R04_LightType F' x s) (fun s => some s) _ (fun m s v => rfl) (fun x hx s g1 g2 => ?_) hl F' (by omega) _ (by omega) (fun s g1 g2 g3 g4 => ⟨s, rfl, by omega, by omega, by omega, fun h => by have := g4 h; omega⟩)
  obtain ⟨r, a1, a2, _, a3, a4⟩ := h1 x hx s ⟨by omega, by omega⟩
  exact ⟨r, a1, by omega, by omega, a4⟩
termination_by t => t
decreasing_by
 have := List.sizeOf_lt_of_mem hpm
 simp only [AType.mk.sizeOf_spec]
 omega
theorem lightPat_ok : ∀ (t : APat), W39 t → Evt fun F => ∀ v, Left v → OffT (szP t) v (R04_LightPat F t v)
 | ⟨kd, ps, nm, nu, parts⟩, hw => by
  obtain ⟨_, _, _, _, hl, hp⟩ := (W39_iff _).1 hw
  have ih : ∀ p ∈ parts, Evt fun F => ∀ v, Left v → OffT (szP p) v (R04_LightPat F p v) := fun p hpm => lightPat_ok p (hp p hpm)
  refine (((Evt.all ih).and (Evt.ge (parts.length + 1))).succ).mono ?_
  rintro F ⟨F', rfl, h1, h2⟩ v hv
  rw [R04_LightPat, R04_LightPat_B, szP_eq]
  have hn := name_part nm.size
  unfold Left at hv
  rw [wrap_ok (x := v - 1) (by omega) (by omega), wrap_ok (by dsimp only; omega) (by dsimp only; omega)]
  dsimp only
  refine sumL (-1048577) (by decide) parts szP (fun n s k => R04_LightPat_L0 F' (R04_LightPat F') ⟨kd, ps, nm, nu, parts⟩ n s k) (fun x s => R04_LightPat F' x s) (fun s => some s) _ (fun m s v => rfl) (fun x hx s g1 g2 => ?_) hl F' (by omega) _ (by omega) (fun s g1 g2 g3 g4 => ⟨s, rfl, by omega, by omega, by omega, fun h => by have := g4 h; omega⟩)
  obtain ⟨r, a1, a2, _, a3, a4⟩ := h1 x hx s ⟨by omega, by omega⟩
  exact ⟨r, a1, by omega, by omega, a4⟩
termination_by t => t
decreasing_by
 have := List.sizeOf_lt_of_mem hpm
 simp only [APat.mk.sizeOf_spec]
 omega
theorem light_ok : ∀ (t : AExpr), W33 t → Evt fun F => ∀ v, Left v → OffE (szE t) v (R04_Light F t v)
 | ⟨kd, ps, nu, bs, nm, kids, arms⟩, hw => by
  obtain ⟨_, _, _, _, _, ⟨hl, hp⟩, ha, hq⟩ := (W33_iff _).1 hw
  have ih1 : ∀ p ∈ kids, Evt fun F => ∀ v, Left v → OffE (szE p) v (R04_Light F p v) := fun p hpm => light_ok p (hp p hpm)
  have ih2 : ∀ p ∈ arms, Evt fun F => (∀ v, Left v → OffT (szP p.Pat) v (R04_LightPat F p.Pat v)) ∧ (∀ v, Left v → OffE (szE p.Body) v (R04_Light F p.Body v)) := fun p hpa =>
   (lightPat_ok p.Pat ((W68_iff _).1 (hq p hpa)).1).and (light_ok p.Body ((W68_iff _).1 (hq p hpa)).2)
  refine (((Evt.all ih1).and (Evt.all ih2)).and ((Evt.ge (kids.length + 1)).and (Evt.ge (arms.length + 1))) |>.succ).mono ?_
  rintro F ⟨F', rfl, ⟨h1, h2⟩, h3, h4⟩ v hv
  rw [R04_Light, R04_Light_B, szE_eq]
  have hn := name_part nm.size
  have hb := name_part bs.length
  unfold Left at hv
  rw [wrap_ok (x := v - 1) (by omega) (by omega), wrap_ok (x := v - 1 - _) (by dsimp only; omega) (by dsimp only; omega), wrap_ok (by dsimp only; omega) (by dsimp only; omega)]
  simp only [joinM]
  refine sumL (-3145730) (by decide) kids szE (fun n s k => R04_Light_L0 F' (R04_Light F') ⟨kd, ps, nu, bs, nm, kids, arms⟩ (fun v2 => R04_Light_L1 F' (R04_Light F') ⟨kd, ps, nu, bs, nm, kids, arms⟩ F' v2 0) n s k) (fun x s => R04_Light F' x s) _ _ (fun m s v => rfl) (fun x hx s g1 g2 => ?_) hl F' (by omega) _ (by omega) (fun s g1 g2 g3 g4 => ?_)
  ·obtain ⟨r, a1, a2, _, a3, a4⟩ := h1 x hx s ⟨by omega, by omega⟩
   exact ⟨r, a1, by omega, by omega, a4⟩
  ·refine sumL (-3145730) (by decide) arms szA (fun n s k => R04_Light_L1 F' (R04_Light F') ⟨kd, ps, nu, bs, nm, kids, arms⟩ n s k) (fun x s => (R04_LightPat F' x.Pat s).bind fun a => R04_Light F' x.Body a) (fun s => some s) _ (fun m s v => ?_) (fun x hx s' g1 g2 => ?_) ha F' (by omega) _ (by omega) (fun s' k1 k2 k3 k4 => ⟨s', rfl, by omega, by omega, by omega, fun h => ?_⟩)
   ·show R04_Light_L1 F' (R04_Light F') ⟨kd, ps, nu, bs, nm, kids, arms⟩ (m + 1) s v = _
    rw [R04_Light_L1]; simp only [Option.bind_assoc]
   ·obtain ⟨r, a1, a2, _, a3, a4⟩ := (h2 x hx).1 s' ⟨by omega, by omega⟩
    obtain ⟨r2, b1, b2, b5, b3, b4⟩ := (h2 x hx).2 r ⟨by omega, by omega⟩
    refine ⟨r2, by rw [a1]; exact b1, by omega, by omega, fun h => ?_⟩
    rw [szA_eq]
    have := b4 h; have := a4 (by omega)
    omega
   ·have := k4 h
    have := g4 (by omega)
    dsimp only at *
    omega
termination_by t => t
decreasing_by
 ·have := List.sizeOf_lt_of_mem hpm
  simp only [AExpr.mk.sizeOf_spec]
  omega
 ·have := List.sizeOf_lt_of_mem hpa
  have : SizeOf.sizeOf p.Body < SizeOf.sizeOf p := by cases p; simp only [AArm.mk.sizeOf_spec]; omega
  simp only [AExpr.mk.sizeOf_spec]
  omega
theorem sumC {α β : Type} (lo : Int) (xs : List α) (w : α → Nat) (f : Nat → Int → Int → Option β) (g : Int → α → Int → (Int → Option β) → Option β) (K : Int → Option β) (R : Option β → Prop)
  (hf : ∀ m s v, f (m + 1) s v = bif ((decide (v < (xs.length : Int))) && (decide (0 ≤ s))) then ((idx xs v).bind fun x => g v x s (fun s' => f m s' (IntKind.i64.wrap (v + 1)))) else K s)
  (hstep : ∀ (k : Nat) x, xs[k]? = some x → ∀ s, 0 ≤ s → s ≤ 1048576 → ∀ C : Int → Option β, (∀ r, lo ≤ r → r ≤ s → (0 ≤ r → (w x : Int) ≤ s - r) → R (C r)) → R (g (k : Int) x s C)) (hl : xs.length ≤ maxLen) (n : Nat) (hn : xs.length < n) (s0 : Int) (hs : s0 ≤ 1048576)
  (hK : ∀ s, s ≤ s0 → min s0 lo ≤ s → (0 ≤ s → (sumW w xs : Int) ≤ s0 - s) → R (K s)) : R (f n s0 0) := by
 refine loop_ok xs f (fun k s => s ≤ s0 ∧ min s0 lo ≤ s ∧ (0 ≤ s → (sumW w (xs.take k) : Int) ≤ s0 - s)) R ?_ ?_ n s0 hn ⟨Int.le_refl _, by omega, fun h => by simp [sumW]⟩
 ·intro n s ⟨p1, p2, p4⟩
  rw [hf, dec_end, Bool.false_and, cond_false]
  rw [List.take_length] at p4
  exact hK s p1 p2 p4
 ·intro n s k x hx ⟨p1, p2, p4⟩ next
  rw [hf, dec_lt hx, Bool.true_and]
  by_cases h0 : 0 ≤ s
  ·rw [decide_eq_true h0, cond_true, idx_nat, hx, Option.bind_some, wrapK hx hl]
   refine hstep k x hx s h0 (by omega) _ fun r q1 q2 q3 => next r ⟨by omega, by omega, fun h => ?_⟩
   rw [take_next hx, sumW_append]
   simp only [sumW]
   have := p4 h0
   have := q3 h
   omega
  ·rw [decide_eq_false h0, cond_false]
   exact hK s p1 p2 (fun h => absurd h h0)
abbrev conT (c : ACon) : AType := ⟨0, c.Name, c.Fields⟩
theorem conT_W {c : ACon} (h : W92 c) : W26 (conT c) := (W26_iff _).2 ⟨(show IntKind.i64.min ≤ 0 ∧ 0 ≤ IntKind.i64.max by decide), h.1, h.2⟩
def szC (c : ACon) : Nat := szT (conT c)
def szD (d : AData) : Nat := 1 + sumW szC d.Cons
def szM (p : AParam) : Nat := szT p.Type_
def szF (f : AFun) : Nat := 1 + szT f.Result + szE f.Body + sumW szM f.Params
def szH (f : AHand) : Nat := 1 + szT f.Param.Type_ + szE f.Body
def szG (p : AProg) : Nat := szT p.State + szE p.Init + sumW szD p.Datas + sumW szF p.Funs + sumW szH p.Hands
abbrev LT (F : Nat) (t : AType) : Prop := ∀ v, Left v → OffT (szT t) v (R04_LightType F t v)
abbrev LE (F : Nat) (t : AExpr) : Prop := ∀ v, Left v → OffE (szE t) v (R04_Light F t v)
abbrev LO : Int := -16777216
theorem LO_eq : LO = -16777216 := rfl
theorem consL {F : Nat} {p : AProg} {i : Nat} {d : AData} {K : Int → Option Int} (hd : p.Datas[i]? = some d) (hl : d.Cons.length ≤ maxLen) (hF : d.Cons.length < F) (h : ∀ c ∈ d.Cons, LT F (conT c)) (w : Int) (hw2 : w ≤ 1048576) {R : Option Int → Prop}
  (hK : ∀ s, s ≤ w → min w LO ≤ s → (0 ≤ s → (sumW szC d.Cons : Int) ≤ w - s) → R (K s)) : R (R04_LP_L1 F p (i : Int) K F w 0) := by
 refine sumC LO d.Cons szC (fun n s k => R04_LP_L1 F p (i : Int) K n s k) (fun v x s C => (R04_LightType F (AType.mk 0 x.Name x.Fields) s).bind C) K R (fun m s v => ?_) (fun k x hx s g1 g2 C hC => ?_) hl F hF w hw2 hK
 ·show R04_LP_L1 F p (i : Int) K (m + 1) s v = _
  rw [R04_LP_L1]; simp only [idx_nat, hd, Option.bind_some]
 ·obtain ⟨r, a1, a2, a5, a3, a4⟩ := h x (List.mem_of_getElem? hx) s ⟨by omega, by omega⟩
  show R ((R04_LightType F (conT x) s).bind C)
  rw [a1]
  exact hC r (by rw [LO_eq]; omega) (by omega) a4
theorem datasL {F : Nat} {p : AProg} {K : Int → Option Int} (hl : p.Datas.length ≤ maxLen) (hF : p.Datas.length < F) (hc : ∀ d ∈ p.Datas, d.Cons.length ≤ maxLen ∧ d.Cons.length < F ∧ ∀ c ∈ d.Cons, LT F (conT c)) (w : Int) (hw2 : w ≤ 1048576) {R : Option Int → Prop}
  (hK : ∀ s, s ≤ w → min w LO ≤ s → (0 ≤ s → (sumW szD p.Datas : Int) ≤ w - s) → R (K s)) : R (R04_LP_L0 F p K F w 0) := by
 refine sumC LO p.Datas szD (fun n s k => R04_LP_L0 F p K n s k) (fun v x s C => joinM C fun K3 => R04_LP_L1 F p v K3 F (IntKind.i64.wrap ((IntKind.i64.wrap (s - 1)) - (if 1048576 < (x.Name.size : Int) then 1048576 else (x.Name.size : Int)))) 0) K R (fun m s v => rfl) (fun k x hx s g1 g2 C hC => ?_) hl F hF w hw2 hK
 obtain ⟨c1, c2, c3⟩ := hc x (List.mem_of_getElem? hx)
 have hn := name_part x.Name.size
 simp only [joinM]
 rw [wrap_ok (x := s - 1) (by omega) (by omega), wrap_ok (x := s - 1 - _) (by omega) (by omega)]
 refine consL hx c1 c2 c3 _ (by omega) fun s' q1 q2 q3 => hC s' ?_ (by omega) fun h => ?_
 ·rw [LO_eq] at q2 ⊢; omega
 ·have := q3 h; unfold szD; omega
theorem paramsL {F : Nat} {f : AFun} {K : Int → Option Int} (hl : f.Params.length ≤ maxLen) (hF : f.Params.length < F) (h : ∀ c ∈ f.Params, LT F c.Type_) (w : Int) (hw2 : w ≤ 1048576) {R : Option Int → Prop}
  (hK : ∀ s, s ≤ w → min w LO ≤ s → (0 ≤ s → (sumW szM f.Params : Int) ≤ w - s) → R (K s)) : R (R04_LP_L3 F f K F w 0) := by
 refine sumC LO f.Params szM (fun n s k => R04_LP_L3 F f K n s k) (fun v x s C => (R04_LightType F x.Type_ (IntKind.i64.wrap (s - (if 1048576 < (x.Name.size : Int) then 1048576 else (x.Name.size : Int))))).bind C) K R (fun m s v => rfl) (fun k x hx s g1 g2 C hC => ?_) hl F hF w hw2 hK
 have hn := name_part x.Name.size
 rw [wrap_ok (by omega) (by omega)]
 obtain ⟨r, a1, a2, a5, a3, a4⟩ := h x (List.mem_of_getElem? hx) (s - (if 1048576 < (x.Name.size : Int) then 1048576 else (x.Name.size : Int))) ⟨by omega, by omega⟩
 rw [a1]
 refine hC r (by rw [LO_eq]; omega) (by omega) fun h => ?_
 have := a4 h; unfold szM; omega
theorem funsL {F : Nat} {p : AProg} {K : Int → Option Int} (hl : p.Funs.length ≤ maxLen) (hF : p.Funs.length < F) (hc : ∀ f ∈ p.Funs, f.Params.length ≤ maxLen ∧ f.Params.length < F ∧ (∀ c ∈ f.Params, LT F c.Type_) ∧ LT F f.Result ∧ LE F f.Body) (w : Int) (hw2 : w ≤ 1048576) {R : Option Int → Prop}
  (hK : ∀ s, s ≤ w → min w LO ≤ s → (0 ≤ s → (sumW szF p.Funs : Int) ≤ w - s) → R (K s)) : R (R04_LP_L2 F p K F w 0) := by
 refine sumC LO p.Funs szF (fun n s k => R04_LP_L2 F p K n s k) (fun v x s C => (R04_LightType F x.Result (IntKind.i64.wrap ((IntKind.i64.wrap (s - 1)) - (if 1048576 < (x.Name.size : Int) then 1048576 else (x.Name.size : Int))))).bind fun x29 => (R04_Light F x.Body x29).bind fun x30 => joinM C fun K7 => R04_LP_L3 F x K7 F x30 0) K R (fun m s v => rfl) (fun k x hx s g1 g2 C hC => ?_) hl F hF w hw2 hK
 obtain ⟨c1, c2, c3, c4, c5⟩ := hc x (List.mem_of_getElem? hx)
 have hn := name_part x.Name.size
 rw [wrap_ok (x := s - 1) (by omega) (by omega), wrap_ok (x := s - 1 - _) (by omega) (by omega)]
 obtain ⟨r, a1, a2, a5, a3, a4⟩ := c4 (s - 1 - (if 1048576 < (x.Name.size : Int) then 1048576 else (x.Name.size : Int))) ⟨by omega, by omega⟩
 rw [a1]; simp only [Option.bind_some]
 obtain ⟨r2, b1, b2, b5, b3, b4⟩ := c5 r ⟨by omega, by omega⟩
 rw [b1]; simp only [Option.bind_some, joinM]
 refine paramsL c1 c2 c3 r2 (by omega) fun s' q1 q2 q3 => hC s' ?_ (by omega) fun h => ?_
 ·rw [LO_eq] at q2 ⊢; omega
 ·have := q3 h; have := b4 (by omega); have := a4 (by omega); unfold szF; omega
theorem handsL {F : Nat} {p : AProg} (hl : p.Hands.length ≤ maxLen) (hF : p.Hands.length < F) (hc : ∀ f ∈ p.Hands, LT F f.Param.Type_ ∧ LE F f.Body) (w : Int) (hw2 : w ≤ 1048576) {R : Option Int → Prop}
  (hK : ∀ s, s ≤ w → min w LO ≤ s → (0 ≤ s → (sumW szH p.Hands : Int) ≤ w - s) → R (some s)) : R (R04_LP_L4 F p F w 0) := by
 refine sumC LO p.Hands szH (fun n s k => R04_LP_L4 F p n s k) (fun v x s C => (R04_LightType F x.Param.Type_ (IntKind.i64.wrap ((IntKind.i64.wrap ((IntKind.i64.wrap (s - 1)) - (if 1048576 < (x.Name.size : Int) then 1048576 else (x.Name.size : Int)))) - (if 1048576 < (x.Param.Name.size : Int) then 1048576 else (x.Param.Name.size : Int))))).bind fun x46 => (R04_Light F x.Body x46).bind C) (fun s => some s) R (fun m s v => rfl) (fun k x hx s g1 g2 C hC => ?_) hl F hF w hw2 hK
 obtain ⟨c4, c5⟩ := hc x (List.mem_of_getElem? hx)
 have hn := name_part x.Name.size
 have hn2 := name_part x.Param.Name.size
 rw [wrap_ok (x := s - 1) (by omega) (by omega), wrap_ok (x := s - 1 - _) (by omega) (by omega), wrap_ok (by omega) (by omega)]
 obtain ⟨r, a1, a2, a5, a3, a4⟩ := c4 (s - 1 - (if 1048576 < (x.Name.size : Int) then 1048576 else (x.Name.size : Int)) - (if 1048576 < (x.Param.Name.size : Int) then 1048576 else (x.Param.Name.size : Int))) ⟨by omega, by omega⟩
 rw [a1]; simp only [Option.bind_some]
 obtain ⟨r2, b1, b2, b5, b3, b4⟩ := c5 r ⟨by omega, by omega⟩
 rw [b1]
 refine hC r2 (by rw [LO_eq]; omega) (by omega) fun h => ?_
 have := b4 h; have := a4 (by omega); unfold szH; omega
theorem lightProg_ok (p : AProg) (hw : W36 p) (v : Int) (hv0 : 0 ≤ v) (hv1 : v ≤ 1048576) : Evt fun F => ∃ r, R04_LP F p v = some r ∧ (0 ≤ r → (szG p : Int) ≤ v) := by
 obtain ⟨⟨w1, w2⟩, ⟨w3, w4⟩, _, _, w5, _, w6, w7, w8⟩ := hw
 have hD : ∀ d ∈ p.Datas, Evt fun F => d.Cons.length ≤ maxLen ∧ d.Cons.length < F ∧ ∀ c ∈ d.Cons, LT F (conT c) := fun d hd => by
  obtain ⟨_, _, g1, g2⟩ := w2 d hd
  exact ((Evt.ge (d.Cons.length + 1)).and (Evt.all fun c hc => lightType_ok (conT c) (conT_W (g2 c hc)))).mono fun F ⟨a, b⟩ => ⟨rl g1, a, b⟩
 have hFn : ∀ f ∈ p.Funs, Evt fun F => f.Params.length ≤ maxLen ∧ f.Params.length < F ∧ (∀ c ∈ f.Params, LT F c.Type_) ∧ LT F f.Result ∧ LE F f.Body := fun f hf => by
  obtain ⟨_, _, ⟨g1, g2⟩, g3, g4⟩ := w4 f hf
  exact (((Evt.ge (f.Params.length + 1)).and (Evt.all fun c hc => lightType_ok c.Type_ (g2 c hc).2)).and ((lightType_ok f.Result g3).and (light_ok f.Body g4))).mono fun F ⟨⟨a, b⟩, c, d⟩ => ⟨rl g1, a, b, c, d⟩
 have hH : ∀ f ∈ p.Hands, Evt fun F => LT F f.Param.Type_ ∧ LE F f.Body := fun f hf => by
  obtain ⟨_, _, ⟨_, g3⟩, _, g4⟩ := w8 f hf
  exact (lightType_ok _ g3).and (light_ok f.Body g4)
 refine (((Evt.all hD).and ((Evt.all hFn).and (Evt.all hH))).and (((lightType_ok p.State w5).and (light_ok p.Init w6)).and ((Evt.ge (p.Datas.length + 1)).and ((Evt.ge (p.Funs.length + 1)).and (Evt.ge (p.Hands.length + 1)))))).mono ?_
 rintro F ⟨⟨a1, a2, a3⟩, ⟨a4, a5⟩, a6, a7, a8⟩
 rw [R04_LP]
 obtain ⟨r, hr, q1, q5, q2, q3⟩ := a4 v ⟨by omega, by omega⟩
 rw [hr]
 simp only [Option.bind_some]
 obtain ⟨r2, hr2, p1, p5, p2, p3⟩ := a5 r ⟨by omega, by omega⟩
 rw [hr2]
 simp only [Option.bind_some, joinM]
 refine datasL (rl w1) a6 a1 r2 (by omega) (R := fun o => ∃ r, o = some r ∧ (0 ≤ r → (szG p : Int) ≤ v)) fun s g1 g2 g3 => ?_
 refine funsL (rl w3) a7 a2 s (by omega) (R := fun o => ∃ r, o = some r ∧ (0 ≤ r → (szG p : Int) ≤ v)) fun s2 g4 g5 g6 => ?_
 refine handsL (rl w7) a8 a3 s2 (by omega) (R := fun o => ∃ r, o = some r ∧ (0 ≤ r → (szG p : Int) ≤ v)) fun s3 g7 g8 g9 => ⟨s3, rfl, fun h => ?_⟩
 have := g9 h; have := g6 (by omega); have := g3 (by omega); have := p3 (by omega); have := q3 (by omega)
 unfold szG; omega
mutual
def bareP : APat → APat
 | ⟨k, _, nm, nu, ks⟩ => ⟨k, ⟨0, 0⟩, nm, nu, barePs ks⟩
def barePs : List APat → List APat
 | [] => []
 | x :: xs => bareP x :: barePs xs
end
theorem barePs_eq : ∀ l, barePs l = l.map bareP
 | [] => rfl
 | x :: xs => by simp only [barePs, List.map_cons, barePs_eq xs]
mutual
def bareE : AExpr → AExpr
 | ⟨k, _, nu, bs, nm, ks, ar⟩ => ⟨k, ⟨0, 0⟩, nu, bs, nm, bareEs ks, bareAs ar⟩
def bareA : AArm → AArm
 | ⟨p, b⟩ => ⟨bareP p, bareE b⟩
def bareEs : List AExpr → List AExpr
 | [] => []
 | x :: xs => bareE x :: bareEs xs
def bareAs : List AArm → List AArm
 | [] => []
 | x :: xs => bareA x :: bareAs xs
end
theorem bareEs_eq : ∀ l, bareEs l = l.map bareE
 | [] => by simp only [bareEs, List.map_nil]
 | x :: xs => by simp only [bareEs, List.map_cons, bareEs_eq xs]
theorem bareAs_eq : ∀ l, bareAs l = l.map bareA
 | [] => by simp only [bareAs, List.map_nil]
 | x :: xs => by simp only [bareAs, List.map_cons, bareAs_eq xs]
theorem bareP_mk (k at' nm nu ks) : bareP ⟨k, at', nm, nu, ks⟩ = ⟨k, ⟨0, 0⟩, nm, nu, ks.map bareP⟩ := by rw [bareP, barePs_eq]
theorem bareE_mk (k at' nu bs nm ks ar) : bareE ⟨k, at', nu, bs, nm, ks, ar⟩ = ⟨k, ⟨0, 0⟩, nu, bs, nm, ks.map bareE, ar.map bareA⟩ := by rw [bareE, bareEs_eq, bareAs_eq]
theorem bareA_eq (a : AArm) : bareA a = ⟨bareP a.Pat, bareE a.Body⟩ := by cases a; rw [bareA]
def bareD (d : AData) : AData := ⟨⟨0, 0⟩, d.Name, d.Cons⟩
def bareF (d : AFun) : AFun := ⟨⟨0, 0⟩, d.Name, d.Params, d.Result, bareE d.Body⟩
def bareH (d : AHand) : AHand := ⟨⟨0, 0⟩, d.Name, d.Param, d.Cap, bareE d.Body⟩
def bareG (p : AProg) : AProg := { p with Init := bareE p.Init, Datas := p.Datas.map bareD, Funs := p.Funs.map bareF, Hands := p.Hands.map bareH }
theorem appM_one {α : Type} {b : Nat} {xs : List α} {y : α} (hb : b ≤ 1000) (h : xs.length ≤ 2097152) : appM b xs [y] = some (xs ++ [y]) := by
 unfold appM
 have : (xs.length + [y].length) * b ≤ 2097153 * 1000 := Nat.mul_le_mul (by simp; omega) hb
 rw [if_pos ⟨Nat.le_trans this (by decide), Nat.le_trans (show xs.length + [y].length ≤ 2097153 by simp; omega) (by decide)⟩]
theorem turned_ok {α : Type} (b : Nat) (hb : b ≤ 1000) (xs : List α) (φ : α → Option α) (q : α → α) (f : Nat → List α → Int → Option (List α))
  (hf : ∀ m v i, f (m + 1) v i = bif (decide (i < (xs.length : Int))) then ((idx xs i).bind fun x9 => (φ x9).bind fun x11 => (appM b v ([x11] : List α)).bind fun x13 => f m x13 (IntKind.i64.wrap (i + 1))) else (some v))
  (hφ : ∀ x ∈ xs, φ x = some (q x)) (hl : xs.length ≤ 1048576) (n : Nat) (hn : xs.length < n) : f n [] 0 = some (xs.map q) := by
 refine loop_ok xs (fun n v i => f n v i) (fun k v => v = (xs.take k).map q) (fun o => o = some (xs.map q)) ?_ ?_ n [] hn (by simp)
 ·intro n s hp
  rw [hf, dec_end, cond_false, hp, List.take_length]
 ·intro n s k x hx hp next
  have hk := lt_of_get hx
  rw [hf, dec_lt hx, cond_true, idx_nat, hx, Option.bind_some, hφ x (List.mem_of_getElem? hx), Option.bind_some, appM_one hb (by rw [hp]; simp; omega), Option.bind_some, wrapK hx (Nat.le_trans hl (by decide))]
  exact next _ (by rw [take_next hx, List.map_append, hp]; rfl)
theorem szT_pos (t : AType) : 1 ≤ szT t := by rw [szT_eq]; omega
theorem szP_pos (t : APat) : 1 ≤ szP t := by rw [szP_eq]; omega
theorem szE_pos (t : AExpr) : 1 ≤ szE t := by rw [szE_eq]; omega
theorem szA_pos (t : AArm) : 1 ≤ szA t := by have := szP_pos t.Pat; rw [szA_eq]; omega
theorem map_self {α : Type} (xs : List α) : xs.map (fun x => x) = xs := by simp
theorem ownT : ∀ t : AType, szT t ≤ 1048576 → Evt fun F => ast_ownType F t = some t
 | ⟨kd, nm, parts⟩, hs => by
  rw [szT_eq] at hs
  dsimp only at hs
  have hl := sumW_len szT_pos parts
  have ih : ∀ p ∈ parts, Evt fun F => ast_ownType F p = some p := fun p hpm => ownT p (by have := sumW_mem (w := szT) hpm; omega)
  refine ((Evt.all ih).and (Evt.ge (parts.length + 1)) |>.succ).mono ?_
  rintro F ⟨F', rfl, h1, h2⟩
  rw [ast_ownType, ast_ownType_B]
  have e : atu_AType F' parts (fun y0 => ast_ownType F' y0) = some parts := by
   have := turned_ok 48 (by decide) parts (fun y0 => ast_ownType F' y0) (fun x => x) (fun n v i => atu_AType_L0 F' parts (fun y0 => ast_ownType F' y0) n v i) (fun _ _ _ => rfl) h1 (by omega) F' (by omega)
   rw [map_self] at this
   exact this
  dsimp only
  rw [e]; rfl
termination_by t => t
decreasing_by
 have := List.sizeOf_lt_of_mem hpm
 simp only [AType.mk.sizeOf_spec]
 omega
theorem barePok : ∀ t : APat, szP t ≤ 1048576 → Evt fun F => ast_barePat F t = some (bareP t)
 | ⟨kd, at', nm, nu, kids⟩, hs => by
  rw [szP_eq] at hs
  dsimp only at hs
  have hl := sumW_len szP_pos kids
  have ih : ∀ p ∈ kids, Evt fun F => ast_barePat F p = some (bareP p) := fun p hpm => barePok p (by have := sumW_mem (w := szP) hpm; omega)
  refine ((Evt.all ih).and (Evt.ge (kids.length + 1)) |>.succ).mono ?_
  rintro F ⟨F', rfl, h1, h2⟩
  rw [ast_barePat, ast_barePat_B, bareP_mk]
  have e : atu_APat F' kids (fun y0 => ast_barePat F' y0) = some (kids.map bareP) :=
   turned_ok 72 (by decide) kids (fun y0 => ast_barePat F' y0) bareP (fun n v i => atu_APat_L0 F' kids (fun y0 => ast_barePat F' y0) n v i) (fun _ _ _ => rfl) h1 (by omega) F' (by omega)
  dsimp only
  rw [e]; rfl
termination_by t => t
decreasing_by
 have := List.sizeOf_lt_of_mem hpm
 simp only [APat.mk.sizeOf_spec]
 omega
theorem clone_ok (F : Nat) {l : List Int} (h : l.length ≤ 1048576) : slices_Clone_byte_byte F l = some l := by
 unfold slices_Clone_byte_byte appM
 rw [if_pos ⟨by simp only [List.length_nil, Nat.zero_add, Nat.mul_one]; exact Nat.le_trans h (by decide), by simp only [List.length_nil, Nat.zero_add]; exact Nat.le_trans h (by decide)⟩, List.nil_append]
theorem bareEok : ∀ t : AExpr, szE t ≤ 1048576 → Evt fun F => ast_bareExpr F t = some (bareE t)
 | ⟨kd, at', nu, bs, nm, kids, arms⟩, hs => by
  rw [szE_eq] at hs
  dsimp only at hs
  have hl := sumW_len szE_pos kids
  have hl2 := sumW_len szA_pos arms
  have ih1 : ∀ p ∈ kids, Evt fun F => ast_bareExpr F p = some (bareE p) := fun p hpm => bareEok p (by have := sumW_mem (w := szE) hpm; omega)
  have ih2 : ∀ p ∈ arms, Evt fun F => ast_barePat F p.Pat = some (bareP p.Pat) ∧ ast_bareExpr F p.Body = some (bareE p.Body) := fun p hpa => by
   have := sumW_mem (w := szA) hpa
   rw [szA_eq] at this
   exact (barePok p.Pat (by omega)).and (bareEok p.Body (by omega))
  refine ((Evt.all ih1).and ((Evt.all ih2).succ.and ((Evt.ge (kids.length + 1)).and (Evt.ge (arms.length + 1)))) |>.succ).mono ?_
  rintro F ⟨F', rfl, h1, ⟨F'', e', h2⟩, h3, h4⟩
  rw [ast_bareExpr, ast_bareExpr_B, bareE_mk]
  have e1 : atu_AExpr F' kids (fun y0 => ast_bareExpr F' y0) = some (kids.map bareE) :=
   turned_ok 120 (by decide) kids (fun y0 => ast_bareExpr F' y0) bareE (fun n v i => atu_AExpr_L0 F' kids (fun y0 => ast_bareExpr F' y0) n v i) (fun _ _ _ => rfl) h1 (by omega) F' (by omega)
  have e2 : atu_AArm F' arms (fun y0 => ast_bareArm F' y0) = some (arms.map bareA) :=
   turned_ok 192 (by decide) arms (fun y0 => ast_bareArm F' y0) bareA (fun n v i => atu_AArm_L0 F' arms (fun y0 => ast_bareArm F' y0) n v i) (fun _ _ _ => rfl) (fun x hx => by
    subst e'
    rw [ast_bareArm, ast_bareArm_B, (h2 x hx).1, Option.bind_some, (h2 x hx).2, Option.bind_some, bareA_eq]) (by omega) F' (by omega)
  dsimp only
  rw [clone_ok F' (by omega), Option.bind_some, e1, Option.bind_some, e2]; rfl
termination_by t => t
decreasing_by
 ·have := List.sizeOf_lt_of_mem hpm
  simp only [AExpr.mk.sizeOf_spec]
  omega
 ·have := List.sizeOf_lt_of_mem hpa
  have : SizeOf.sizeOf p.Body < SizeOf.sizeOf p := by cases p; simp only [AArm.mk.sizeOf_spec]; omega
  simp only [AExpr.mk.sizeOf_spec]
  omega
theorem ownTs {xs : List AType} (h : sumW szT xs ≤ 1048576) : Evt fun F => atu_AType F xs (fun y0 => ast_ownType F y0) = some xs := by
 have hl := sumW_len szT_pos xs
 refine ((Evt.all fun p hp => ownT p (by have := sumW_mem (w := szT) (xs := xs) hp; omega)).and (Evt.ge (xs.length + 1))).mono ?_
 rintro F ⟨h1, h2⟩
 have := turned_ok 48 (by decide) xs (fun y0 => ast_ownType F y0) (fun x => x) (fun n v i => atu_AType_L0 F xs (fun y0 => ast_ownType F y0) n v i) (fun _ _ _ => rfl) h1 (by omega) F (by omega)
 rw [map_self] at this
 exact this
theorem szC_eq (c : ACon) : szC c = 1 + sumW szT c.Fields := by unfold szC; rw [szT_eq]
theorem ownC (c : ACon) (h : szC c ≤ 1048576) : Evt fun F => ast_ownCon F c = some c := by
 rw [szC_eq] at h
 refine (ownTs (xs := c.Fields) (by omega)).mono fun F e => ?_
 rw [ast_ownCon, e]; rfl
theorem bareDok (d : AData) (h : szD d ≤ 1048576) : Evt fun F => ast_Bare_1 F d = some (bareD d) := by
 unfold szD at h
 have hl := sumW_len (w := szC) (fun c => by rw [szC_eq]; omega) d.Cons
 refine ((Evt.all fun p hp => ownC p (by have := sumW_mem (w := szC) (xs := d.Cons) hp; omega)).and (Evt.ge (d.Cons.length + 1))).mono ?_
 rintro F ⟨h1, h2⟩
 have := turned_ok 40 (by decide) d.Cons (fun y0 => ast_ownCon F y0) (fun x => x) (fun n v i => atu_ACon_L0 F d.Cons (fun y0 => ast_ownCon F y0) n v i) (fun _ _ _ => rfl) h1 (by omega) F (by omega)
 rw [map_self] at this
 rw [ast_Bare_1, show atu_ACon F d.Cons (fun y0 => ast_ownCon F y0) = some d.Cons from this]; rfl
theorem ownM (c : AParam) (h : szM c ≤ 1048576) : Evt fun F => ast_ownParam F c = some c :=
 (ownT c.Type_ h).mono fun F e => by rw [ast_ownParam, e]; rfl
theorem bareFok (d : AFun) (h : szF d ≤ 1048576) : Evt fun F => ast_Bare_2 F d = some (bareF d) := by
 unfold szF at h
 have hl := sumW_len (w := szM) (fun c => szT_pos _) d.Params
 refine (((Evt.all fun p hp => ownM p (by have := sumW_mem (w := szM) (xs := d.Params) hp; omega)).and (Evt.ge (d.Params.length + 1))).and ((ownT d.Result (by omega)).and (bareEok d.Body (by omega)))).mono ?_
 rintro F ⟨⟨h1, h2⟩, h3, h4⟩
 have := turned_ok 64 (by decide) d.Params (fun y0 => ast_ownParam F y0) (fun x => x) (fun n v i => atu_AParam_L0 F d.Params (fun y0 => ast_ownParam F y0) n v i) (fun _ _ _ => rfl) h1 (by omega) F (by omega)
 rw [map_self] at this
 rw [ast_Bare_2, show atu_AParam F d.Params (fun y0 => ast_ownParam F y0) = some d.Params from this, Option.bind_some, h3, Option.bind_some, h4]; rfl
theorem bareHok (d : AHand) (h : szH d ≤ 1048576) : Evt fun F => ast_Bare_3 F d = some (bareH d) := by
 unfold szH at h
 refine ((ownM d.Param (by unfold szM; omega)).and (bareEok d.Body (by omega))).mono ?_
 rintro F ⟨h3, h4⟩
 rw [ast_Bare_3, h3, Option.bind_some, h4]; rfl
theorem bareGok (p : AProg) (h : szG p ≤ 1048576) : Evt fun F => ast_Bare F p = some (bareG p) := by
 unfold szG at h
 have l1 := sumW_len (w := szD) (fun c => by unfold szD; omega) p.Datas
 have l2 := sumW_len (w := szF) (fun c => by unfold szF; omega) p.Funs
 have l3 := sumW_len (w := szH) (fun c => by unfold szH; omega) p.Hands
 refine ((((Evt.all fun x hx => bareDok x (by have := sumW_mem (w := szD) (xs := p.Datas) hx; omega)).and (Evt.ge (p.Datas.length + 1))).and
  (((Evt.all fun x hx => bareFok x (by have := sumW_mem (w := szF) (xs := p.Funs) hx; omega)).and (Evt.ge (p.Funs.length + 1))).and
  ((Evt.all fun x hx => bareHok x (by have := sumW_mem (w := szH) (xs := p.Hands) hx; omega)).and (Evt.ge (p.Hands.length + 1))))).and ((ownT p.State (by omega)).and (bareEok p.Init (by omega)))).mono ?_
 rintro F ⟨⟨⟨a1, a2⟩, ⟨b1, b2⟩, c1, c2⟩, d1, d2⟩
 have e1 := turned_ok 56 (by decide) p.Datas (fun y0 => ast_Bare_1 F y0) bareD (fun n v i => atu_AData_L0 F p.Datas (fun y0 => ast_Bare_1 F y0) n v i) (fun _ _ _ => rfl) a1 (by omega) F (by omega)
 have e2 := turned_ok 224 (by decide) p.Funs (fun y0 => ast_Bare_2 F y0) bareF (fun n v i => atu_AFun_L0 F p.Funs (fun y0 => ast_Bare_2 F y0) n v i) (fun _ _ _ => rfl) b1 (by omega) F (by omega)
 have e3 := turned_ok 224 (by decide) p.Hands (fun y0 => ast_Bare_3 F y0) bareH (fun n v i => atu_AHand_L0 F p.Hands (fun y0 => ast_Bare_3 F y0) n v i) (fun _ _ _ => rfl) c1 (by omega) F (by omega)
 have E1 : atu_AData F p.Datas (fun y0 => ast_Bare_1 F y0) = some (p.Datas.map bareD) := e1
 have E2 : atu_AFun F p.Funs (fun y0 => ast_Bare_2 F y0) = some (p.Funs.map bareF) := e2
 have E3 : atu_AHand F p.Hands (fun y0 => ast_Bare_3 F y0) = some (p.Hands.map bareH) := e3
 rw [ast_Bare, d1, Option.bind_some, d2, Option.bind_some]
 dsimp only
 rw [E1, Option.bind_some, E2, Option.bind_some, E3]
 rfl
def Says (o : Option Bool) (P : Prop) : Prop := ∃ b, o = some b ∧ (b = true ↔ P)
theorem Says.of {o : Option Bool} {b : Bool} {P : Prop} (h : o = some b) (g : b = true ↔ P) : Says o P := ⟨b, h, g⟩
theorem name_eq (a b : ByteArray) : (a.toList == b.toList) = true ↔ a = b := by
 rw [ByteArray.toList_eq, ByteArray.toList_eq, beq_iff_eq]
 constructor
 ·intro h
  exact ByteArray.ext (Array.toList_inj.1 h)
 ·rintro rfl; rfl
theorem name_iff (a b : ByteArray) : a.toList = b.toList ↔ a = b := by rw [← name_eq, beq_iff_eq]
theorem ne_false {a b : Int} : (a != b) = !(a == b) := rfl
theorem len_ne {α : Type} (xs ys : List α) : ((xs.length : Int) != (ys.length : Int)) = !decide (xs.length = ys.length) := by
 rw [ne_false]; congr 1; rw [Bool.eq_iff_iff]; simp; omega
theorem alike_ok {α β : Type} (E : α → β) (xs ys : List α) (φ : α → α → Option Bool) (f : Nat → Int → Option Bool)
  (hf : ∀ m v, f (m + 1) v = bif (decide (v < (xs.length : Int))) then ((idx xs v).bind fun x5 => (idx ys v).bind fun x7 => (φ x5 x7).bind fun x9 => bif (!x9) then (some false) else (f m (IntKind.i64.wrap (v + 1)))) else (some true))
  (hφ : ∀ x ∈ xs, ∀ y, Says (φ x y) (E x = E y)) (hl : xs.length ≤ maxLen) (n : Nat) (hn : xs.length < n) :
  Says (bif ((xs.length : Int) != (ys.length : Int)) then (some false) else (f n 0)) (xs.map E = ys.map E) := by
 rw [len_ne]
 by_cases hlen : xs.length = ys.length
 ·rw [decide_eq_true hlen]
  simp only [Bool.not_true, cond_false]
  refine loop_ok xs (fun n (_ : Unit) v => f n v) (fun k _ => (xs.take k).map E = (ys.take k).map E) (fun o => Says o (xs.map E = ys.map E)) ?_ ?_ n () hn (by simp)
  ·intro n s hp
   rw [hf, dec_end, cond_false]
   rw [List.take_length, hlen, List.take_length] at hp
   exact ⟨true, rfl, by simp [hp]⟩
  ·intro n s k x hx hp next
   have hk := lt_of_get hx
   obtain ⟨y, hy⟩ : ∃ y, ys[k]? = some y := ⟨ys[k]'(by omega), by simp⟩
   obtain ⟨b, hb, hi⟩ := hφ x (List.mem_of_getElem? hx) y
   rw [hf, dec_lt hx, cond_true, idx_nat, idx_nat, hx, hy, Option.bind_some, Option.bind_some, hb, Option.bind_some]
   cases b with
   | true =>
    simp only [Bool.not_true, cond_false]
    rw [wrapK hx hl]
    exact next () (by rw [take_next hx, take_next hy, List.map_append, List.map_append, hp]; simp [hi.1 rfl])
   | false =>
    refine ⟨false, rfl, ⟨fun h => (by cases h), fun h => ?_⟩⟩
    have : (xs.map E)[k]? = (ys.map E)[k]? := by rw [h]
    rw [List.getElem?_map, List.getElem?_map, hx, hy] at this
    exact hi.2 (Option.some.inj this)
 ·rw [decide_eq_false hlen]
  refine ⟨false, rfl, ⟨fun h => (by cases h), fun h => ?_⟩⟩
  exact absurd (by simpa using congrArg List.length h) hlen
theorem alikeT {F : Nat} {xs ys : List AType} {φ : AType → AType → Option Bool} {β : Type} (E : AType → β) (h : ∀ x ∈ xs, ∀ y, Says (φ x y) (E x = E y)) (hl : xs.length ≤ maxLen) (hF : xs.length < F) : Says (aal_AType F xs ys φ) (xs.map E = ys.map E) := by
 obtain ⟨b, hb, hi⟩ := alike_ok E xs ys φ (fun n v => sEqType_L0 F xs ys φ n v) (fun _ _ => rfl) h hl F hF
 refine .of (b := b) ?_ hi
 rw [aal_AType, show sEqType F xs ys φ = some b from hb]; rfl
theorem alikeP {F : Nat} {xs ys : List APat} {φ : APat → APat → Option Bool} {β : Type} (E : APat → β) (h : ∀ x ∈ xs, ∀ y, Says (φ x y) (E x = E y)) (hl : xs.length ≤ maxLen) (hF : xs.length < F) : Says (aal_APat F xs ys φ) (xs.map E = ys.map E) := by
 obtain ⟨b, hb, hi⟩ := alike_ok E xs ys φ (fun n v => sEqPat_L0 F xs ys φ n v) (fun _ _ => rfl) h hl F hF
 refine .of (b := b) ?_ hi
 rw [aal_APat, show sEqPat F xs ys φ = some b from hb]; rfl
theorem alikeE {F : Nat} {xs ys : List AExpr} {φ : AExpr → AExpr → Option Bool} {β : Type} (E : AExpr → β) (h : ∀ x ∈ xs, ∀ y, Says (φ x y) (E x = E y)) (hl : xs.length ≤ maxLen) (hF : xs.length < F) : Says (aal_AExpr F xs ys φ) (xs.map E = ys.map E) := by
 obtain ⟨b, hb, hi⟩ := alike_ok E xs ys φ (fun n v => sEqExpr_L0 F xs ys φ n v) (fun _ _ => rfl) h hl F hF
 refine .of (b := b) ?_ hi
 rw [aal_AExpr, show sEqExpr F xs ys φ = some b from hb]; rfl
theorem alikeA {F : Nat} {xs ys : List AArm} {φ : AArm → AArm → Option Bool} {β : Type} (E : AArm → β) (h : ∀ x ∈ xs, ∀ y, Says (φ x y) (E x = E y)) (hl : xs.length ≤ maxLen) (hF : xs.length < F) : Says (aal_AArm F xs ys φ) (xs.map E = ys.map E) := by
 obtain ⟨b, hb, hi⟩ := alike_ok E xs ys φ (fun n v => sEqArm_L0 F xs ys φ n v) (fun _ _ => rfl) h hl F hF
 refine .of (b := b) ?_ hi
 rw [aal_AArm, show sEqArm F xs ys φ = some b from hb]; rfl
theorem alikeC {F : Nat} {xs ys : List ACon} {φ : ACon → ACon → Option Bool} {β : Type} (E : ACon → β) (h : ∀ x ∈ xs, ∀ y, Says (φ x y) (E x = E y)) (hl : xs.length ≤ maxLen) (hF : xs.length < F) : Says (aal_ACon F xs ys φ) (xs.map E = ys.map E) := by
 obtain ⟨b, hb, hi⟩ := alike_ok E xs ys φ (fun n v => sEqCon_L0 F xs ys φ n v) (fun _ _ => rfl) h hl F hF
 refine .of (b := b) ?_ hi
 rw [aal_ACon, show sEqCon F xs ys φ = some b from hb]; rfl
theorem alikeD {F : Nat} {xs ys : List AData} {φ : AData → AData → Option Bool} {β : Type} (E : AData → β) (h : ∀ x ∈ xs, ∀ y, Says (φ x y) (E x = E y)) (hl : xs.length ≤ maxLen) (hF : xs.length < F) : Says (aal_AData F xs ys φ) (xs.map E = ys.map E) := by
 obtain ⟨b, hb, hi⟩ := alike_ok E xs ys φ (fun n v => sEqData_L0 F xs ys φ n v) (fun _ _ => rfl) h hl F hF
 refine .of (b := b) ?_ hi
 rw [aal_AData, show sEqData F xs ys φ = some b from hb]; rfl
theorem alikeM {F : Nat} {xs ys : List AParam} {φ : AParam → AParam → Option Bool} {β : Type} (E : AParam → β) (h : ∀ x ∈ xs, ∀ y, Says (φ x y) (E x = E y)) (hl : xs.length ≤ maxLen) (hF : xs.length < F) : Says (aal_AParam F xs ys φ) (xs.map E = ys.map E) := by
 obtain ⟨b, hb, hi⟩ := alike_ok E xs ys φ (fun n v => sEqParam_L0 F xs ys φ n v) (fun _ _ => rfl) h hl F hF
 refine .of (b := b) ?_ hi
 rw [aal_AParam, show sEqParam F xs ys φ = some b from hb]; rfl
theorem alikeF {F : Nat} {xs ys : List AFun} {φ : AFun → AFun → Option Bool} {β : Type} (E : AFun → β) (h : ∀ x ∈ xs, ∀ y, Says (φ x y) (E x = E y)) (hl : xs.length ≤ maxLen) (hF : xs.length < F) : Says (aal_AFun F xs ys φ) (xs.map E = ys.map E) := by
 obtain ⟨b, hb, hi⟩ := alike_ok E xs ys φ (fun n v => sEqFun_L0 F xs ys φ n v) (fun _ _ => rfl) h hl F hF
 refine .of (b := b) ?_ hi
 rw [aal_AFun, show sEqFun F xs ys φ = some b from hb]; rfl
theorem alikeH {F : Nat} {xs ys : List AHand} {φ : AHand → AHand → Option Bool} {β : Type} (E : AHand → β) (h : ∀ x ∈ xs, ∀ y, Says (φ x y) (E x = E y)) (hl : xs.length ≤ maxLen) (hF : xs.length < F) : Says (aal_AHand F xs ys φ) (xs.map E = ys.map E) := by
 obtain ⟨b, hb, hi⟩ := alike_ok E xs ys φ (fun n v => sEqHand_L0 F xs ys φ n v) (fun _ _ => rfl) h hl F hF
 refine .of (b := b) ?_ hi
 rw [aal_AHand, show sEqHand F xs ys φ = some b from hb]; rfl
theorem bytes_ok {F : Nat} {xs ys : List Int} (hl : xs.length ≤ maxLen) (hF : xs.length < F) : Says (sEqB F xs ys) (xs = ys) := by
 have := alike_ok (fun x : Int => x) xs ys (fun a b => some (a == b)) (fun n v => sEqB_L0 F xs ys n v) (fun _ _ => rfl) (fun x _ y => ⟨x == y, rfl, by simp⟩) hl F hF
 rw [map_self, map_self] at this
 exact this
theorem sameT : ∀ a : AType, W26 a → Evt fun F => ∀ b, Says (ast_sameType F a b) (a = b)
 | ⟨kd, nm, parts⟩, hw => by
  obtain ⟨_, _, hl, hp⟩ := (W26_iff _).1 hw
  have ih : ∀ p ∈ parts, Evt fun F => ∀ b, Says (ast_sameType F p b) (p = b) := fun p hpm => sameT p (hp p hpm)
  refine ((Evt.all ih).and (Evt.ge (parts.length + 1)) |>.succ).mono ?_
  rintro F ⟨F', rfl, h1, h2⟩ ⟨kd2, nm2, parts2⟩
  rw [ast_sameType, ast_sameType_B]
  obtain ⟨b, hb, hi⟩ := alikeT (F := F') (xs := parts) (ys := parts2) (φ := fun y0 y1 => ast_sameType F' y0 y1) (fun x => x) (fun x hx y => h1 x hx y) hl (by omega)
  rw [map_self, map_self] at hi
  refine .of (b := ((kd == kd2) && (nm.toList == nm2.toList)) && b) ?_ ?_
  ·simp only [joinM, hb, Option.bind_some]
   cases (kd == kd2) && (nm.toList == nm2.toList) <;> rfl
  ·rw [AType.mk.injEq, Bool.and_eq_true, Bool.and_eq_true, beq_iff_eq, name_eq, hi, and_assoc]
termination_by t => t
decreasing_by
 have := List.sizeOf_lt_of_mem hpm
 simp only [AType.mk.sizeOf_spec]
 omega
theorem sameP : ∀ a : APat, W39 a → Evt fun F => ∀ b, Says (ast_samePat F a b) (bareP a = bareP b)
 | ⟨kd, at', nm, nu, kids⟩, hw => by
  obtain ⟨_, _, _, _, hl, hp⟩ := (W39_iff _).1 hw
  have ih : ∀ p ∈ kids, Evt fun F => ∀ b, Says (ast_samePat F p b) (bareP p = bareP b) := fun p hpm => sameP p (hp p hpm)
  refine ((Evt.all ih).and (Evt.ge (kids.length + 1)) |>.succ).mono ?_
  rintro F ⟨F', rfl, h1, h2⟩ ⟨kd2, at2, nm2, nu2, kids2⟩
  rw [ast_samePat, ast_samePat_B, bareP_mk, bareP_mk]
  obtain ⟨b, hb, hi⟩ := alikeP (F := F') (xs := kids) (ys := kids2) (φ := fun y0 y1 => ast_samePat F' y0 y1) bareP (fun x hx y => h1 x hx y) hl (by omega)
  refine .of (b := (((kd == kd2) && (nm.toList == nm2.toList)) && (nu == nu2)) && b) ?_ ?_
  ·simp only [joinM, hb, Option.bind_some]
   cases ((kd == kd2) && (nm.toList == nm2.toList)) && (nu == nu2) <;> rfl
  ·simp only [APat.mk.injEq, Bool.and_eq_true, beq_iff_eq, name_iff, hi, true_and, and_assoc]
termination_by t => t
decreasing_by
 have := List.sizeOf_lt_of_mem hpm
 simp only [APat.mk.sizeOf_spec]
 omega
theorem sameE : ∀ a : AExpr, W33 a → Evt fun F => ∀ b, Says (ast_SameExpr F a b) (bareE a = bareE b)
 | ⟨kd, at', nu, bs, nm, kids, arms⟩, hw => by
  obtain ⟨_, _, _, hbs, _, ⟨hl, hp⟩, ha, hq⟩ := (W33_iff _).1 hw
  have ih1 : ∀ p ∈ kids, Evt fun F => ∀ b, Says (ast_SameExpr F p b) (bareE p = bareE b) := fun p hpm => sameE p (hp p hpm)
  have ih2 : ∀ p ∈ arms, Evt fun F => (∀ b, Says (ast_samePat F p.Pat b) (bareP p.Pat = bareP b)) ∧ (∀ b, Says (ast_SameExpr F p.Body b) (bareE p.Body = bareE b)) := fun p hpa =>
   (sameP p.Pat ((W68_iff _).1 (hq p hpa)).1).and (sameE p.Body ((W68_iff _).1 (hq p hpa)).2)
  refine ((Evt.all ih1).and ((Evt.all ih2).succ.and ((Evt.ge (kids.length + 1)).and ((Evt.ge (arms.length + 1)).and (Evt.ge (bs.length + 1))))) |>.succ).mono ?_
  rintro F ⟨F', rfl, h1, ⟨F'', e', h2⟩, h3, h4, h5⟩ ⟨kd2, at2, nu2, bs2, nm2, kids2, arms2⟩
  rw [ast_SameExpr, ast_SameExpr_B, bareE_mk, bareE_mk]
  obtain ⟨b1, hb1, hi1⟩ := alikeE (F := F') (xs := kids) (ys := kids2) (φ := fun y0 y1 => ast_SameExpr F' y0 y1) bareE (fun x hx y => h1 x hx y) hl (by omega)
  obtain ⟨b2, hb2, hi2⟩ := alikeA (F := F') (xs := arms) (ys := arms2) (φ := fun y0 y1 => ast_sameArm F' y0 y1) bareA (fun x hx y => by
   subst e'
   obtain ⟨c1, g1, g2⟩ := (h2 x hx).1 y.Pat
   obtain ⟨c2, g3, g4⟩ := (h2 x hx).2 y.Body
   show Says (ast_sameArm (F'' + 1) x y) _
   rw [ast_sameArm, ast_sameArm_B]
   refine .of (b := c1 && c2) ?_ ?_
   ·simp only [joinM, g1, g3, Option.bind_some]
    cases c1 <;> rfl
   ·rw [bareA_eq, bareA_eq, AArm.mk.injEq, Bool.and_eq_true, g2, g4]) ha (by omega)
  obtain ⟨b3, hb3, hi3⟩ := bytes_ok (F := F') (xs := bs) (ys := bs2) (rl hbs.1) (by omega)
  refine .of (b := ((((((kd == kd2) && (nu == nu2)) && (nm.toList == nm2.toList))) && b3) && b1) && b2) ?_ ?_
  ·simp only [joinM, hb1, hb2, hb3, Option.bind_some]
   cases (((kd == kd2) && (nu == nu2)) && (nm.toList == nm2.toList)) <;> cases b3 <;> cases b1 <;> rfl
  ·simp only [AExpr.mk.injEq, Bool.and_eq_true, beq_iff_eq, name_iff, hi1, hi2, hi3, true_and, and_assoc]
   constructor
   ·rintro ⟨a, b, c, d, e, f⟩; exact ⟨a, b, d, c, e, f⟩
   ·rintro ⟨a, b, d, c, e, f⟩; exact ⟨a, b, c, d, e, f⟩
termination_by t => t
decreasing_by
 ·have := List.sizeOf_lt_of_mem hpm
  simp only [AExpr.mk.sizeOf_spec]
  omega
 ·have := List.sizeOf_lt_of_mem hpa
  have : SizeOf.sizeOf p.Body < SizeOf.sizeOf p := by cases p; simp only [AArm.mk.sizeOf_spec]; omega
  simp only [AExpr.mk.sizeOf_spec]
  omega
theorem sameC (a : ACon) (hw : W92 a) : Evt fun F => ∀ b, Says (ast_sameCon F a b) (a = b) := by
 obtain ⟨_, hl, hp⟩ := hw
 refine ((Evt.all fun p hp' => sameT p (hp p hp')).and (Evt.ge (a.Fields.length + 1))).mono ?_
 rintro F ⟨h1, h2⟩ b
 obtain ⟨c, hc, hi⟩ := alikeT (F := F) (xs := a.Fields) (ys := b.Fields) (φ := fun y0 y1 => ast_sameType F y0 y1) (fun x => x) (fun x hx y => h1 x hx y) hl (by omega)
 rw [map_self, map_self] at hi
 rw [ast_sameCon]
 refine .of (b := (a.Name.toList == b.Name.toList) && c) ?_ ?_
 ·simp only [joinM, hc, Option.bind_some]
  cases a.Name.toList == b.Name.toList <;> rfl
 ·cases a; cases b
  simp only [ACon.mk.injEq, Bool.and_eq_true, beq_iff_eq, name_iff, hi]
theorem sameM (a : AParam) (hw : W81 a) : Evt fun F => ∀ b, Says (ast_sameParam F a b) (a = b) := by
 refine (sameT _ hw.2).mono ?_
 intro F h b
 obtain ⟨c, hc, hi⟩ := h b.Type_
 rw [ast_sameParam]
 refine .of (b := (a.Name.toList == b.Name.toList) && c) ?_ ?_
 ·simp only [joinM, hc, Option.bind_some]
  cases a.Name.toList == b.Name.toList <;> rfl
 ·cases a; cases b
  simp only [AParam.mk.injEq, Bool.and_eq_true, beq_iff_eq, name_iff, hi]
theorem sameD (a : AData) (hw : W72 a) : Evt fun F => ∀ b, Says (ast_sameData F a b) (bareD a = bareD b) := by
 obtain ⟨_, _, hl, hp⟩ := hw
 refine ((Evt.all fun p hp' => sameC p (hp p hp')).and (Evt.ge (a.Cons.length + 1))).mono ?_
 rintro F ⟨h1, h2⟩ b
 obtain ⟨c, hc, hi⟩ := alikeC (F := F) (xs := a.Cons) (ys := b.Cons) (φ := fun y0 y1 => ast_sameCon F y0 y1) (fun x => x) (fun x hx y => h1 x hx y) (rl hl) (by omega)
 rw [map_self, map_self] at hi
 rw [ast_sameData]
 refine .of (b := (a.Name.toList == b.Name.toList) && c) ?_ ?_
 ·simp only [joinM, hc, Option.bind_some]
  cases a.Name.toList == b.Name.toList <;> rfl
 ·simp only [bareD, AData.mk.injEq, Bool.and_eq_true, beq_iff_eq, name_iff, hi, true_and]
theorem sameF (a : AFun) (hw : W77 a) : Evt fun F => ∀ b, Says (ast_sameFun F a b) (bareF a = bareF b) := by
 obtain ⟨_, _, ⟨hl, hp⟩, hr, hb⟩ := hw
 refine (((Evt.all fun p hp' => sameM p (hp p hp')).and (Evt.ge (a.Params.length + 1))).and ((sameT _ hr).and (sameE _ hb))).mono ?_
 rintro F ⟨⟨h1, h2⟩, h3, h4⟩ b
 obtain ⟨c, hc, hi⟩ := alikeM (F := F) (xs := a.Params) (ys := b.Params) (φ := fun y0 y1 => ast_sameParam F y0 y1) (fun x => x) (fun x hx y => h1 x hx y) (rl hl) (by omega)
 obtain ⟨c2, hc2, hi2⟩ := h3 b.Result
 obtain ⟨c3, hc3, hi3⟩ := h4 b.Body
 rw [map_self, map_self] at hi
 rw [ast_sameFun]
 refine .of (b := (((a.Name.toList == b.Name.toList) && c) && c2) && c3) ?_ ?_
 ·simp only [joinM, hc, hc2, hc3, Option.bind_some]
  cases a.Name.toList == b.Name.toList <;> cases c <;> cases c2 <;> rfl
 ·simp only [bareF, AFun.mk.injEq, Bool.and_eq_true, beq_iff_eq, name_iff, hi, hi2, hi3, true_and, and_assoc]
theorem sameH (a : AHand) (hw : W83 a) : Evt fun F => ∀ b, Says (ast_sameHand F a b) (bareH a = bareH b) := by
 obtain ⟨_, _, hp, _, hb⟩ := hw
 refine ((sameM _ hp).and (sameE _ hb)).mono ?_
 rintro F ⟨h3, h4⟩ b
 obtain ⟨c2, hc2, hi2⟩ := h3 b.Param
 obtain ⟨c3, hc3, hi3⟩ := h4 b.Body
 rw [ast_sameHand]
 refine .of (b := (((a.Name.toList == b.Name.toList) && (a.Cap == b.Cap)) && c2) && c3) ?_ ?_
 ·simp only [joinM, hc2, hc3, Option.bind_some]
  cases (a.Name.toList == b.Name.toList) && (a.Cap == b.Cap) <;> cases c2 <;> rfl
 ·simp only [bareH, AHand.mk.injEq, Bool.and_eq_true, beq_iff_eq, name_iff, hi2, hi3, true_and, and_assoc]
  constructor
  ·rintro ⟨a, b, c, d⟩; exact ⟨a, c, b, d⟩
  ·rintro ⟨a, b, c, d⟩; exact ⟨a, c, b, d⟩
theorem bne_or {a b : Int} : (a != b) = !(a == b) := rfl
theorem sameG (a : AProg) (hw : W36 a) : Evt fun F => ∀ b, Says (ast_Same F a b) (bareG a = bareG b) := by
 obtain ⟨⟨w1, w2⟩, ⟨w3, w4⟩, _, _, w5, _, w6, w7, w8⟩ := hw
 refine ((((Evt.all fun p hp' => sameD p (w2 p hp')).and (Evt.ge (a.Datas.length + 1))).and (((Evt.all fun p hp' => sameF p (w4 p hp')).and (Evt.ge (a.Funs.length + 1))).and ((Evt.all fun p hp' => sameH p (w8 p hp')).and (Evt.ge (a.Hands.length + 1))))).and ((sameT _ w5).and (sameE _ w6))).mono ?_
 rintro F ⟨⟨⟨a1, a2⟩, ⟨b1, b2⟩, c1, c2⟩, d1, d2⟩ b
 obtain ⟨x1, g1, i1⟩ := alikeD (F := F) (xs := a.Datas) (ys := b.Datas) (φ := fun y0 y1 => ast_sameData F y0 y1) bareD (fun x hx y => a1 x hx y) (rl w1) (by omega)
 obtain ⟨x2, g2, i2⟩ := alikeF (F := F) (xs := a.Funs) (ys := b.Funs) (φ := fun y0 y1 => ast_sameFun F y0 y1) bareF (fun x hx y => b1 x hx y) (rl w3) (by omega)
 obtain ⟨x3, g3, i3⟩ := alikeH (F := F) (xs := a.Hands) (ys := b.Hands) (φ := fun y0 y1 => ast_sameHand F y0 y1) bareH (fun x hx y => c1 x hx y) (rl w7) (by omega)
 obtain ⟨x4, g4, i4⟩ := d1 b.State
 obtain ⟨x5, g5, i5⟩ := d2 b.Init
 rw [ast_Same]
 refine .of (b := ((((((a.Queue == b.Queue) && (a.Timers == b.Timers)) && (a.Cap == b.Cap)) && x4) && x5) && x1) && (x2 && x3)) ?_ ?_
 ·simp only [joinM, g1, g2, g3, g4, g5, Option.bind_some, bne_or]
  cases (a.Queue == b.Queue) <;> cases (a.Timers == b.Timers) <;> cases (a.Cap == b.Cap) <;> cases x4 <;> cases x5 <;> cases x1 <;> cases x2 <;> rfl
 ·simp only [bareG, AProg.mk.injEq, Bool.and_eq_true, beq_iff_eq, i1, i2, i3, i4, i5, and_assoc]
  constructor
  ·rintro ⟨a, b, c, d, e, f, g, h⟩; exact ⟨f, g, a, b, d, c, e, h⟩
  ·rintro ⟨f, g, a, b, d, c, e, h⟩; exact ⟨a, b, c, d, e, f, g, h⟩
theorem self_ok {α β : Type} (xs : List α) (f : Nat → Int → Option β) (g : Int → α → α → Option β → Option β) (K : Option β)
  (hf : ∀ m v, f (m + 1) v = bif (decide (v < (xs.length : Int))) then ((idx xs v).bind fun x => (idx xs v).bind fun y => g v x y (f m (IntKind.i64.wrap (v + 1)))) else K)
  (hg : ∀ (k : Nat) x, xs[k]? = some x → ∀ c, g k x x c = c) (hl : xs.length ≤ maxLen) (n : Nat) (hn : xs.length < n) : f n 0 = K := by
 refine loop_ok xs (fun n (_ : Unit) v => f n v) (fun _ _ => True) (fun o => o = K) ?_ ?_ n () hn trivial
 ·intro n s _
  rw [hf, dec_end, cond_false]
 ·intro n s k x hx _ next
  rw [hf, dec_lt hx, cond_true, idx_nat, hx, Option.bind_some, Option.bind_some, hg k x hx, wrapK hx hl]
  exact next () trivial
theorem selfN (a : ByteArray) : (a.toList == a.toList) = true := by simp
theorem selfI (a : Int) : (a != a) = false := by simp
theorem selfT : ∀ t : AType, W26 t → Evt fun F => R04_SameType F t t = some true
 | ⟨kd, nm, parts⟩, hw => by
  obtain ⟨_, _, hl, hp⟩ := (W26_iff _).1 hw
  have ih : ∀ p ∈ parts, Evt fun F => R04_SameType F p p = some true := fun p hpm => selfT p (hp p hpm)
  refine ((Evt.all ih).and (Evt.ge (parts.length + 1)) |>.succ).mono ?_
  rintro F ⟨F', rfl, h1, h2⟩
  rw [R04_SameType, R04_SameType_B]
  simp only [selfN, selfI, Bool.not_true, Bool.or_self, cond_false]
  refine self_ok parts (fun n v => R04_SameType_L0 F' (R04_SameType F') ⟨kd, nm, parts⟩ ⟨kd, nm, parts⟩ n v) (fun _ x y c => (R04_SameType F' x y).bind fun x9 => bif (!x9) then (some false) else c) (some true) (fun _ _ => rfl) (fun k x hx c => ?_) hl F' (by omega)
  show ((R04_SameType F' x x).bind _) = _
  rw [h1 x (List.mem_of_getElem? hx)]; rfl
termination_by t => t
decreasing_by
 have := List.sizeOf_lt_of_mem hpm
 simp only [AType.mk.sizeOf_spec]
 omega
theorem selfP : ∀ t : APat, W39 t → Evt fun F => R04_SamePat F t t = some true
 | ⟨kd, at', nm, nu, kids⟩, hw => by
  obtain ⟨_, _, _, _, hl, hp⟩ := (W39_iff _).1 hw
  have ih : ∀ p ∈ kids, Evt fun F => R04_SamePat F p p = some true := fun p hpm => selfP p (hp p hpm)
  refine ((Evt.all ih).and (Evt.ge (kids.length + 1)) |>.succ).mono ?_
  rintro F ⟨F', rfl, h1, h2⟩
  rw [R04_SamePat, R04_SamePat_B]
  simp only [selfN, selfI, Bool.not_true, Bool.or_self, cond_false]
  refine self_ok kids (fun n v => R04_SamePat_L0 F' (R04_SamePat F') ⟨kd, at', nm, nu, kids⟩ ⟨kd, at', nm, nu, kids⟩ n v) (fun _ x y c => (R04_SamePat F' x y).bind fun x9 => bif (!x9) then (some false) else c) (some true) (fun _ _ => rfl) (fun k x hx c => ?_) hl F' (by omega)
  show ((R04_SamePat F' x x).bind _) = _
  rw [h1 x (List.mem_of_getElem? hx)]; rfl
termination_by t => t
decreasing_by
 have := List.sizeOf_lt_of_mem hpm
 simp only [APat.mk.sizeOf_spec]
 omega
theorem selfE : ∀ t : AExpr, W33 t → Evt fun F => R04_SameExpr F t t = some true
 | ⟨kd, at', nu, bs, nm, kids, arms⟩, hw => by
  obtain ⟨_, _, _, _, _, ⟨hl, hp⟩, ha, hq⟩ := (W33_iff _).1 hw
  have ih1 : ∀ p ∈ kids, Evt fun F => R04_SameExpr F p p = some true := fun p hpm => selfE p (hp p hpm)
  have ih2 : ∀ p ∈ arms, Evt fun F => R04_SamePat F p.Pat p.Pat = some true ∧ R04_SameExpr F p.Body p.Body = some true := fun p hpa =>
   (selfP p.Pat ((W68_iff _).1 (hq p hpa)).1).and (selfE p.Body ((W68_iff _).1 (hq p hpa)).2)
  refine ((Evt.all ih1).and ((Evt.all ih2).and ((Evt.ge (kids.length + 1)).and (Evt.ge (arms.length + 1)))) |>.succ).mono ?_
  rintro F ⟨F', rfl, h1, h2, h3, h4⟩
  rw [R04_SameExpr, R04_SameExpr_B]
  simp only [selfN, selfI, Bool.not_true, Bool.or_self, cond_false, joinM]
  have e2 : R04_SameExpr_L1 F' (R04_SameExpr F') ⟨kd, at', nu, bs, nm, kids, arms⟩ ⟨kd, at', nu, bs, nm, kids, arms⟩ F' 0 = some true := by
   refine self_ok arms (fun n v => R04_SameExpr_L1 F' (R04_SameExpr F') ⟨kd, at', nu, bs, nm, kids, arms⟩ ⟨kd, at', nu, bs, nm, kids, arms⟩ n v) (fun v x y c => (R04_SamePat F' x.Pat y.Pat).bind fun x16 => joinM (fun (v17 : Bool) => bif v17 then (some false) else c) fun K5 => bif (!x16) then (K5 true) else ((idx arms v).bind fun x18 => (idx arms v).bind fun x19 => (R04_SameExpr F' x18.Body x19.Body).bind fun x20 => K5 (!x20))) (some true) (fun _ _ => rfl) (fun k x hx c => ?_) ha F' (by omega)
   obtain ⟨g1, g2⟩ := h2 x (List.mem_of_getElem? hx)
   simp only [g1, g2, idx_nat, hx, Option.bind_some, joinM, Bool.not_true, cond_false]
  rw [e2]
  refine self_ok kids (fun n v => R04_SameExpr_L0 F' (R04_SameExpr F') ⟨kd, at', nu, bs, nm, kids, arms⟩ ⟨kd, at', nu, bs, nm, kids, arms⟩ (fun _ => some true) n v) (fun _ x y c => (R04_SameExpr F' x y).bind fun x9 => bif (!x9) then (some false) else c) (some true) (fun _ _ => rfl) (fun k x hx c => ?_) hl F' (by omega)
  show ((R04_SameExpr F' x x).bind _) = _
  rw [h1 x (List.mem_of_getElem? hx)]; rfl
termination_by t => t
decreasing_by
 ·have := List.sizeOf_lt_of_mem hpm
  simp only [AExpr.mk.sizeOf_spec]
  omega
 ·have := List.sizeOf_lt_of_mem hpa
  have : SizeOf.sizeOf p.Body < SizeOf.sizeOf p := by cases p; simp only [AArm.mk.sizeOf_spec]; omega
  simp only [AExpr.mk.sizeOf_spec]
  omega
theorem selfM (a : AParam) (hw : W81 a) : Evt fun F => R04_sameParam F a a = some true :=
 (selfT _ hw.2).mono fun F h => by rw [R04_sameParam]; simp only [joinM, selfN, cond_true, h, Option.bind_some]
theorem selfD (a : AData) (hw : W72 a) : Evt fun F => R04_sameData F a a = some true := by
 obtain ⟨_, _, hl, hp⟩ := hw
 refine ((Evt.all fun p hp' => selfT (conT p) (conT_W (hp p hp'))).and (Evt.ge (a.Cons.length + 1))).mono ?_
 rintro F ⟨h1, h2⟩
 rw [R04_sameData]
 simp only [selfN, selfI, Bool.not_true, Bool.or_self, cond_false]
 refine self_ok a.Cons (fun n v => R04_sameData_L0 F a a n v) (fun _ x y c => (R04_SameType F (AType.mk 0 x.Name x.Fields) (AType.mk 0 y.Name y.Fields)).bind fun x9 => bif (!x9) then (some false) else c) (some true) (fun _ _ => rfl) (fun k x hx c => ?_) (rl hl) F (by omega)
 show ((R04_SameType F (conT x) (conT x)).bind _) = _
 rw [h1 x (List.mem_of_getElem? hx)]; rfl
theorem selfF (a : AFun) (hw : W77 a) : Evt fun F => R04_sameFun F a a = some true := by
 obtain ⟨_, _, ⟨hl, hp⟩, hr, hb⟩ := hw
 refine (((Evt.all fun p hp' => selfM p (hp p hp')).and (Evt.ge (a.Params.length + 1))).and ((selfT _ hr).and (selfE _ hb))).mono ?_
 rintro F ⟨⟨h1, h2⟩, h3, h4⟩
 rw [R04_sameFun]
 have e : R04_sameFun_L0 F a a F 0 = some true := by
  refine self_ok a.Params (fun n v => R04_sameFun_L0 F a a n v) (fun _ x y c => (R04_sameParam F x y).bind fun x9 => bif (!x9) then (some false) else c) (some true) (fun _ _ => rfl) (fun k x hx c => ?_) (rl hl) F (by omega)
  show ((R04_sameParam F x x).bind _) = _
  rw [h1 x (List.mem_of_getElem? hx)]; rfl
 simp only [joinM, selfN, selfI, Bool.not_true, Bool.or_self, cond_false, h3, h4, Option.bind_some, e]
theorem selfG (a : AProg) (hw : W36 a) : Evt fun F => R04_Same F a a = some true := by
 obtain ⟨⟨w1, w2⟩, ⟨w3, w4⟩, _, _, w5, _, w6, w7, w8⟩ := hw
 refine ((((Evt.all fun p hp' => selfD p (w2 p hp')).and (Evt.ge (a.Datas.length + 1))).and (((Evt.all fun p hp' => selfF p (w4 p hp')).and (Evt.ge (a.Funs.length + 1))).and ((Evt.all fun p hp' => (selfM p.Param (w8 p hp').2.2.1).and (selfE p.Body (w8 p hp').2.2.2.2)).and (Evt.ge (a.Hands.length + 1))))).and ((selfT _ w5).and (selfE _ w6))).mono ?_
 rintro F ⟨⟨⟨a1, a2⟩, ⟨b1, b2⟩, c1, c2⟩, d1, d2⟩
 rw [R04_Same]
 have e2 : R04_Same_L2 F a a F 0 = some true := by
  refine self_ok a.Hands (fun n v => R04_Same_L2 F a a n v) (fun _ x25 x27 c => joinM (fun (v29 : Bool) => joinM (fun (v31 : Bool) => bif v31 then (some false) else c) fun K9 => bif (v29 || (x25.Cap != x27.Cap)) then (K9 true) else ((R04_SameExpr F x25.Body x27.Body).bind fun x32 => K9 (!x32))) fun K8 => bif (!(x25.Name.toList == x27.Name.toList)) then (K8 true) else ((R04_sameParam F x25.Param x27.Param).bind fun x30 => K8 (!x30))) (some true) (fun _ _ => rfl) (fun k x hx c => ?_) (rl w7) F (by omega)
  obtain ⟨g1, g2⟩ := c1 x (List.mem_of_getElem? hx)
  simp only [joinM, selfN, selfI, g1, g2, Option.bind_some, Bool.not_true, Bool.or_self, cond_false]
 have e1 : ∀ K, R04_Same_L1 F a a K F 0 = K () := by
  intro K
  refine self_ok a.Funs (fun n v => R04_Same_L1 F a a K n v) (fun _ x y c => (R04_sameFun F x y).bind fun x9 => bif (!x9) then (some false) else c) (K ()) (fun _ _ => rfl) (fun k x hx c => ?_) (rl w3) F (by omega)
  show ((R04_sameFun F x x).bind _) = _
  rw [b1 x (List.mem_of_getElem? hx)]; rfl
 have e0 : ∀ K, R04_Same_L0 F a a K F 0 = K () := by
  intro K
  refine self_ok a.Datas (fun n v => R04_Same_L0 F a a K n v) (fun _ x y c => (R04_sameData F x y).bind fun x9 => bif (!x9) then (some false) else c) (K ()) (fun _ _ => rfl) (fun k x hx c => ?_) (rl w1) F (by omega)
  show ((R04_sameData F x x).bind _) = _
  rw [a1 x (List.mem_of_getElem? hx)]; rfl
 simp only [joinM, selfN, selfI, Bool.not_true, Bool.or_self, cond_false, d1, d2, Option.bind_some, e0, e1, e2]
theorem calm_ok {α β : Type} (xs : List α) (f : Nat → Bool → Int → Option β) (g : Int → α → (Bool → Option β) → Option β) (K : Bool → Option β)
  (hf : ∀ m v, f (m + 1) false v = bif (decide (v < (xs.length : Int))) then ((idx xs v).bind fun x => g v x (fun b => f m b (IntKind.i64.wrap (v + 1)))) else K false)
  (hg : ∀ (k : Nat) x, xs[k]? = some x → ∀ C, g k x C = C false) (hl : xs.length ≤ maxLen) (n : Nat) (hn : xs.length < n) : f n false 0 = K false := by
 refine loop_ok xs f (fun _ s => s = false) (fun o => o = K false) ?_ ?_ n false hn rfl
 ·rintro n s rfl
  rw [hf, dec_end, cond_false]
 ·rintro n s k x hx rfl next
  rw [hf, dec_lt hx, cond_true, idx_nat, hx, Option.bind_some, hg k x hx, wrapK hx hl]
  exact next false rfl
theorem get_map {α β : Type} {E : α → β} {xs : List α} {k : Nat} {y : β} (h : (xs.map E)[k]? = some y) : ∃ x ∈ xs, y = E x := by
 obtain ⟨x, hx, rfl⟩ := List.mem_map.1 (List.mem_of_getElem? h)
 exact ⟨x, hx, rfl⟩
theorem calmP : ∀ t : APat, W39 t → Evt fun F => R04_placedPat F (bareP t) = some false
 | ⟨kd, at', nm, nu, kids⟩, hw => by
  obtain ⟨_, _, _, _, hl, hp⟩ := (W39_iff _).1 hw
  have ih : ∀ p ∈ kids, Evt fun F => R04_placedPat F (bareP p) = some false := fun p hpm => calmP p (hp p hpm)
  refine ((Evt.all ih).and (Evt.ge (kids.length + 1)) |>.succ).mono ?_
  rintro F ⟨F', rfl, h1, h2⟩
  rw [R04_placedPat, R04_placedPat_B, bareP_mk]
  dsimp only
  rw [show (!((0 : Int) == 0 && (0 : Int) == 0)) = false by decide]
  refine calm_ok (kids.map bareP) (fun n s v => R04_placedPat_L0 F' (R04_placedPat F') ⟨kd, ⟨0, 0⟩, nm, nu, kids.map bareP⟩ n s v) (fun _ x C => (R04_placedPat F' x).bind fun x9 => C x9) (fun b => some b) (fun _ _ => rfl) (fun k x hx C => ?_) (by simpa using hl) F' (by simp; omega)
  obtain ⟨y, hy, rfl⟩ := get_map hx
  show ((R04_placedPat F' (bareP y)).bind _) = _
  rw [h1 y hy]; rfl
termination_by t => t
decreasing_by
 have := List.sizeOf_lt_of_mem hpm
 simp only [APat.mk.sizeOf_spec]
 omega
theorem calmE : ∀ t : AExpr, W33 t → Evt fun F => R04_placed F (bareE t) = some false
 | ⟨kd, at', nu, bs, nm, kids, arms⟩, hw => by
  obtain ⟨_, _, _, _, _, ⟨hl, hp⟩, ha, hq⟩ := (W33_iff _).1 hw
  have ih1 : ∀ p ∈ kids, Evt fun F => R04_placed F (bareE p) = some false := fun p hpm => calmE p (hp p hpm)
  have ih2 : ∀ p ∈ arms, Evt fun F => R04_placedPat F (bareP p.Pat) = some false ∧ R04_placed F (bareE p.Body) = some false := fun p hpa =>
   (calmP p.Pat ((W68_iff _).1 (hq p hpa)).1).and (calmE p.Body ((W68_iff _).1 (hq p hpa)).2)
  refine ((Evt.all ih1).and ((Evt.all ih2).and ((Evt.ge (kids.length + 1)).and (Evt.ge (arms.length + 1)))) |>.succ).mono ?_
  rintro F ⟨F', rfl, h1, h2, h3, h4⟩
  rw [R04_placed, R04_placed_B, bareE_mk]
  dsimp only
  rw [show (!((0 : Int) == 0 && (0 : Int) == 0)) = false by decide]
  simp only [joinM]
  have e2 : R04_placed_L1 F' (R04_placed F') ⟨kd, ⟨0, 0⟩, nu, bs, nm, kids.map bareE, arms.map bareA⟩ F' false 0 = some false := by
   refine calm_ok (arms.map bareA) (fun n s v => R04_placed_L1 F' (R04_placed F') ⟨kd, ⟨0, 0⟩, nu, bs, nm, kids.map bareE, arms.map bareA⟩ n s v) (fun v x C => (R04_placed F' x.Body).bind fun x18 => bif x18 then C true else ((idx (arms.map bareA) v).bind fun x20 => (R04_placedPat F' x20.Pat).bind fun x21 => C x21)) (fun b => some b) (fun _ _ => rfl) (fun k x hx C => ?_) (by simpa using ha) F' (by simp; omega)
   rw [idx_nat, hx]
   obtain ⟨y, hy, rfl⟩ := get_map hx
   obtain ⟨g1, g2⟩ := h2 y hy
   rw [bareA_eq]
   simp only [g1, g2, Option.bind_some, cond_false]
  refine (calm_ok (kids.map bareE) (fun n s v => R04_placed_L0 F' (R04_placed F') ⟨kd, ⟨0, 0⟩, nu, bs, nm, kids.map bareE, arms.map bareA⟩ (fun v2 => R04_placed_L1 F' (R04_placed F') ⟨kd, ⟨0, 0⟩, nu, bs, nm, kids.map bareE, arms.map bareA⟩ F' v2 0) n s v) (fun _ x C => (R04_placed F' x).bind fun x9 => C x9) (fun v2 => R04_placed_L1 F' (R04_placed F') ⟨kd, ⟨0, 0⟩, nu, bs, nm, kids.map bareE, arms.map bareA⟩ F' v2 0) (fun _ _ => rfl) (fun k x hx C => ?_) (by simpa using hl) F' (by simp; omega)).trans e2
  obtain ⟨y, hy, rfl⟩ := get_map hx
  show ((R04_placed F' (bareE y)).bind _) = _
  rw [h1 y hy]; rfl
termination_by t => t
decreasing_by
 ·have := List.sizeOf_lt_of_mem hpm
  simp only [AExpr.mk.sizeOf_spec]
  omega
 ·have := List.sizeOf_lt_of_mem hpa
  have : SizeOf.sizeOf p.Body < SizeOf.sizeOf p := by cases p; simp only [AArm.mk.sizeOf_spec]; omega
  simp only [AExpr.mk.sizeOf_spec]
  omega
theorem calmG (a : AProg) (hw : W36 a) : Evt fun F => R04_Placed F (bareG a) = some false := by
 obtain ⟨⟨w1, w2⟩, ⟨w3, w4⟩, _, _, w5, _, w6, w7, w8⟩ := hw
 refine (((Evt.ge (a.Datas.length + 1)).and (((Evt.all fun p hp' => calmE p.Body (w4 p hp').2.2.2.2).and (Evt.ge (a.Funs.length + 1))).and ((Evt.all fun p hp' => calmE p.Body (w8 p hp').2.2.2.2).and (Evt.ge (a.Hands.length + 1))))).and (calmE _ w6)).mono ?_
 rintro F ⟨⟨a2, ⟨b1, b2⟩, c1, c2⟩, d2⟩
 rw [R04_Placed, show (bareG a).Init = bareE a.Init from rfl, d2]
 simp only [Option.bind_some, joinM]
 have e2 : R04_Placed_L2 F (bareG a) F false 0 = some false := by
  refine calm_ok (a.Hands.map bareH) (fun n s v => R04_Placed_L2 F (bareG a) n s v) (fun v x C => bif (!((x.At.Line == ((APos.mk 0 0).Line)) && ((x.At.Col == ((APos.mk 0 0).Col))))) then C true else ((idx (a.Hands.map bareH) v).bind fun x30 => (R04_placed F x30.Body).bind fun x31 => C x31)) (fun b => some b) (fun _ _ => rfl) (fun k x hx C => ?_) (by simpa using rl w7) F (by simp; omega)
  rw [idx_nat, hx]
  obtain ⟨y, hy, rfl⟩ := get_map hx
  rw [show (!(((bareH y).At.Line == ((APos.mk 0 0).Line)) && (((bareH y).At.Col == ((APos.mk 0 0).Col))))) = false from rfl, cond_false, Option.bind_some, show (bareH y).Body = bareE y.Body from rfl, c1 y hy]; rfl
 have e1 : R04_Placed_L1 F (bareG a) (fun v11 => R04_Placed_L2 F (bareG a) F v11 0) F false 0 = some false := by
  refine (calm_ok (a.Funs.map bareF) (fun n s v => R04_Placed_L1 F (bareG a) (fun v11 => R04_Placed_L2 F (bareG a) F v11 0) n s v) (fun v x C => bif (!((x.At.Line == ((APos.mk 0 0).Line)) && ((x.At.Col == ((APos.mk 0 0).Col))))) then C true else ((idx (a.Funs.map bareF) v).bind fun x30 => (R04_placed F x30.Body).bind fun x31 => C x31)) (fun v11 => R04_Placed_L2 F (bareG a) F v11 0) (fun _ _ => rfl) (fun k x hx C => ?_) (by simpa using rl w3) F (by simp; omega)).trans e2
  rw [idx_nat, hx]
  obtain ⟨y, hy, rfl⟩ := get_map hx
  rw [show (!(((bareF y).At.Line == ((APos.mk 0 0).Line)) && (((bareF y).At.Col == ((APos.mk 0 0).Col))))) = false from rfl, cond_false, Option.bind_some, show (bareF y).Body = bareE y.Body from rfl, b1 y hy]; rfl
 refine (calm_ok (a.Datas.map bareD) (fun n s v => R04_Placed_L0 F (bareG a) (fun v3 => R04_Placed_L1 F (bareG a) (fun v11 => R04_Placed_L2 F (bareG a) F v11 0) F v3 0) n s v) (fun v x C => C (!((x.At.Line == ((APos.mk 0 0).Line)) && ((x.At.Col == ((APos.mk 0 0).Col)))))) (fun v3 => R04_Placed_L1 F (bareG a) (fun v11 => R04_Placed_L2 F (bareG a) F v11 0) F v3 0) (fun _ _ => rfl) (fun k x hx C => ?_) (by simpa using rl w1) F (by simp; omega)).trans e1
 obtain ⟨y, hy, rfl⟩ := get_map hx
 rfl
theorem idx_map {α β : Type} (E : α → β) (xs : List α) (v : Int) : idx (xs.map E) v = (idx xs v).map E := by
 unfold idx
 split
 ·rw [List.getElem?_map]
 ·rfl
theorem find_map {α β : Type} (E : α → β) (xs : List α) (φ : β → Option Bool) (f f' : Nat → Int → Option Int) (h0 : ∀ v, f 0 v = none) (h0' : ∀ v, f' 0 v = none)
  (hf : ∀ m v, f (m + 1) v = bif (decide (v < ((xs.map E).length : Int))) then ((idx (xs.map E) v).bind fun x4 => ((φ x4).bind fun x2 => some (!x2)).bind fun x5 => bif x5 then (some v) else (f m (IntKind.i64.wrap (v + 1)))) else (some (-1)))
  (hf' : ∀ m v, f' (m + 1) v = bif (decide (v < (xs.length : Int))) then ((idx xs v).bind fun x4 => ((φ (E x4)).bind fun x2 => some (!x2)).bind fun x5 => bif x5 then (some v) else (f' m (IntKind.i64.wrap (v + 1)))) else (some (-1))) :
  ∀ m v, f m v = f' m v
 | 0, v => by rw [h0, h0']
 | m + 1, v => by
  rw [hf, hf', List.length_map, idx_map]
  cases idx xs v with
  | none => rfl
  | some x => simp only [Option.map_some, Option.bind_some, find_map E xs φ f f' h0 h0' hf hf' m]
theorem everyPm (F : Nat) (xs : List APat) (a b : Int) (φ : APat → Option Bool) : aev_APat F (xs.map bareP) a b φ = aev_APat F xs a b (fun x => φ (bareP x)) := by
 rw [aev_APat, aev_APat, List.length_map]
 rw [show sCtPat F (xs.map bareP) (fun y0 => aev_APat_1 F y0 φ) = sCtPat F xs (fun y0 => aev_APat_1 F y0 (fun x => φ (bareP x))) from
  congrArg (fun o : Option Int => o.bind fun x1 => some (decide (0 ≤ x1))) (find_map bareP xs φ (fun n v => sIxPat_L0 F (xs.map bareP) (fun y0 => aev_APat_1 F y0 φ) n v) (fun n v => sIxPat_L0 F xs (fun y0 => aev_APat_1 F y0 (fun x => φ (bareP x))) n v) (fun _ => rfl) (fun _ => rfl) (fun _ _ => rfl) (fun _ _ => rfl) F 0)]
theorem everyEm (F : Nat) (xs : List AExpr) (a b : Int) (φ : AExpr → Option Bool) : aev_AExpr F (xs.map bareE) a b φ = aev_AExpr F xs a b (fun x => φ (bareE x)) := by
 rw [aev_AExpr, aev_AExpr, List.length_map]
 rw [show sCtExpr F (xs.map bareE) (fun y0 => aev_AExpr_1 F y0 φ) = sCtExpr F xs (fun y0 => aev_AExpr_1 F y0 (fun x => φ (bareE x))) from
  congrArg (fun o : Option Int => o.bind fun x1 => some (decide (0 ≤ x1))) (find_map bareE xs φ (fun n v => sIxExpr_L0 F (xs.map bareE) (fun y0 => aev_AExpr_1 F y0 φ) n v) (fun n v => sIxExpr_L0 F xs (fun y0 => aev_AExpr_1 F y0 (fun x => φ (bareE x))) n v) (fun _ => rfl) (fun _ => rfl) (fun _ _ => rfl) (fun _ _ => rfl) F 0)]
theorem everyAm (F : Nat) (xs : List AArm) (a b : Int) (φ : AArm → Option Bool) : aev_AArm F (xs.map bareA) a b φ = aev_AArm F xs a b (fun x => φ (bareA x)) := by
 rw [aev_AArm, aev_AArm, List.length_map]
 rw [show sCtArm F (xs.map bareA) (fun y0 => aev_AArm_1 F y0 φ) = sCtArm F xs (fun y0 => aev_AArm_1 F y0 (fun x => φ (bareA x))) from
  congrArg (fun o : Option Int => o.bind fun x1 => some (decide (0 ≤ x1))) (find_map bareA xs φ (fun n v => sIxArm_L0 F (xs.map bareA) (fun y0 => aev_AArm_1 F y0 φ) n v) (fun n v => sIxArm_L0 F xs (fun y0 => aev_AArm_1 F y0 (fun x => φ (bareA x))) n v) (fun _ => rfl) (fun _ => rfl) (fun _ _ => rfl) (fun _ _ => rfl) F 0)]
theorem everyDm (F : Nat) (xs : List AData) (a b : Int) (φ : AData → Option Bool) : aev_AData F (xs.map bareD) a b φ = aev_AData F xs a b (fun x => φ (bareD x)) := by
 rw [aev_AData, aev_AData, List.length_map]
 rw [show sCtData F (xs.map bareD) (fun y0 => aev_AData_1 F y0 φ) = sCtData F xs (fun y0 => aev_AData_1 F y0 (fun x => φ (bareD x))) from
  congrArg (fun o : Option Int => o.bind fun x1 => some (decide (0 ≤ x1))) (find_map bareD xs φ (fun n v => sIxData_L0 F (xs.map bareD) (fun y0 => aev_AData_1 F y0 φ) n v) (fun n v => sIxData_L0 F xs (fun y0 => aev_AData_1 F y0 (fun x => φ (bareD x))) n v) (fun _ => rfl) (fun _ => rfl) (fun _ _ => rfl) (fun _ _ => rfl) F 0)]
theorem everyFm (F : Nat) (xs : List AFun) (a b : Int) (φ : AFun → Option Bool) : aev_AFun F (xs.map bareF) a b φ = aev_AFun F xs a b (fun x => φ (bareF x)) := by
 rw [aev_AFun, aev_AFun, List.length_map]
 rw [show sCtFun F (xs.map bareF) (fun y0 => aev_AFun_1 F y0 φ) = sCtFun F xs (fun y0 => aev_AFun_1 F y0 (fun x => φ (bareF x))) from
  congrArg (fun o : Option Int => o.bind fun x1 => some (decide (0 ≤ x1))) (find_map bareF xs φ (fun n v => sIxFun_L0 F (xs.map bareF) (fun y0 => aev_AFun_1 F y0 φ) n v) (fun n v => sIxFun_L0 F xs (fun y0 => aev_AFun_1 F y0 (fun x => φ (bareF x))) n v) (fun _ => rfl) (fun _ => rfl) (fun _ _ => rfl) (fun _ _ => rfl) F 0)]
theorem everyHm (F : Nat) (xs : List AHand) (a b : Int) (φ : AHand → Option Bool) : aev_AHand F (xs.map bareH) a b φ = aev_AHand F xs a b (fun x => φ (bareH x)) := by
 rw [aev_AHand, aev_AHand, List.length_map]
 rw [show sCtHand F (xs.map bareH) (fun y0 => aev_AHand_1 F y0 φ) = sCtHand F xs (fun y0 => aev_AHand_1 F y0 (fun x => φ (bareH x))) from
  congrArg (fun o : Option Int => o.bind fun x1 => some (decide (0 ≤ x1))) (find_map bareH xs φ (fun n v => sIxHand_L0 F (xs.map bareH) (fun y0 => aev_AHand_1 F y0 φ) n v) (fun n v => sIxHand_L0 F xs (fun y0 => aev_AHand_1 F y0 (fun x => φ (bareH x))) n v) (fun _ => rfl) (fun _ => rfl) (fun _ _ => rfl) (fun _ _ => rfl) F 0)]
theorem fitPm : ∀ (F : Nat) (d : Int) (t : APat), ad_fitPat F d (bareP t) = ad_fitPat F d t
 | 0, _, _ => rfl
 | F + 1, d, ⟨kd, at', nm, nu, kids⟩ => by
  rw [ad_fitPat, ad_fitPat, ad_fitPat_B, ad_fitPat_B, bareP_mk]
  dsimp only
  simp only [everyPm, fitPm F]
theorem fitEm : ∀ F : Nat, (∀ (d : Int) (t : AExpr), ad_fitExpr F d (bareE t) = ad_fitExpr F d t) ∧ (∀ (d : Int) (t : AArm), ad_fitArm F d (bareA t) = ad_fitArm F d t)
 | 0 => ⟨fun _ _ => rfl, fun _ _ => rfl⟩
 | F + 1 => by
  obtain ⟨h1, h2⟩ := fitEm F
  constructor
  ·rintro d ⟨kd, at', nu, bs, nm, kids, arms⟩
   rw [ad_fitExpr, ad_fitExpr, ad_fitExpr_B, ad_fitExpr_B, bareE_mk]
   rw [show ast_of F ⟨kd, ⟨0, 0⟩, nu, bs, nm, kids.map bareE, arms.map bareA⟩ = ast_of F ⟨kd, at', nu, bs, nm, kids, arms⟩ from rfl]
   dsimp only
   simp only [everyEm, everyAm, h1, h2, List.length_map]
  ·intro d a
   rw [ad_fitArm, ad_fitArm, ad_fitArm_B, ad_fitArm_B, bareA_eq]
   dsimp only
   simp only [fitPm, h1]
theorem fitExm (F : Nat) (t : AExpr) : ast_FitExpr F (bareE t) = ast_FitExpr F t := by rw [ast_FitExpr, ast_FitExpr, (fitEm F).1]
theorem fitGm (F : Nat) (p : AProg) : ast_Fit F (bareG p) = ast_Fit F p := by
 have e1 : ∀ x, ast_fitData F (bareD x) = ast_fitData F x := fun x => rfl
 have e2 : ∀ x, ast_fitFun F (bareF x) = ast_fitFun F x := fun x => by
  rw [ast_fitFun, ast_fitFun, show (bareF x).Body = bareE x.Body from rfl]
  simp only [fitExm]; rfl
 have e3 : ∀ x, ast_fitHand F (bareH x) = ast_fitHand F x := fun x => by
  rw [ast_fitHand, ast_fitHand, show (bareH x).Body = bareE x.Body from rfl]
  simp only [fitExm]; rfl
 rw [ast_Fit, ast_Fit, show (bareG p).Init = bareE p.Init from rfl, show (bareG p).Datas = p.Datas.map bareD from rfl, show (bareG p).Funs = p.Funs.map bareF from rfl, show (bareG p).Hands = p.Hands.map bareH from rfl]
 simp only [fitExm, everyDm, everyFm, everyHm, e1, e2, e3]
 rfl
theorem sumW_map {α : Type} {w : α → Nat} {E : α → α} : ∀ {xs : List α}, (∀ x ∈ xs, w (E x) = w x) → sumW w (xs.map E) = sumW w xs
 | [], _ => rfl
 | x :: xs, h => by simp only [List.map_cons, sumW, h x (by simp), sumW_map (xs := xs) fun y hy => h y (by simp [hy])]
theorem map_idem {α : Type} {E : α → α} {xs : List α} (h : ∀ x ∈ xs, E (E x) = E x) : (xs.map E).map E = xs.map E := by
 rw [List.map_map]
 exact List.map_congr_left fun x hx => h x hx
theorem atW : W28 ⟨0, 0⟩ := by unfold W28 W3; decide
theorem bareP_fine : ∀ t : APat, szP (bareP t) = szP t ∧ bareP (bareP t) = bareP t ∧ (W39 t → W39 (bareP t))
 | ⟨kd, at', nm, nu, kids⟩ => by
  have ih : ∀ p ∈ kids, szP (bareP p) = szP p ∧ bareP (bareP p) = bareP p ∧ (W39 p → W39 (bareP p)) := fun p hpm => bareP_fine p
  refine ⟨?_, ?_, fun hw => ?_⟩
  ·rw [bareP_mk, szP_eq, szP_eq]
   dsimp only
   rw [sumW_map fun x hx => (ih x hx).1]
  ·rw [bareP_mk, bareP_mk, map_idem fun x hx => (ih x hx).2.1]
  ·obtain ⟨g1, g2, g3, g4, g5, g6⟩ := (W39_iff _).1 hw
   rw [bareP_mk]
   refine (W39_iff _).2 ⟨g1, atW, g3, g4, by simpa using g5, fun y hy => ?_⟩
   obtain ⟨x, hx, rfl⟩ := List.mem_map.1 hy
   exact (ih x hx).2.2 (g6 x hx)
termination_by t => t
decreasing_by
 have := List.sizeOf_lt_of_mem hpm
 simp only [APat.mk.sizeOf_spec]
 omega
theorem bareE_fine : ∀ t : AExpr, szE (bareE t) = szE t ∧ bareE (bareE t) = bareE t ∧ (W33 t → W33 (bareE t))
 | ⟨kd, at', nu, bs, nm, kids, arms⟩ => by
  have ih1 : ∀ p ∈ kids, szE (bareE p) = szE p ∧ bareE (bareE p) = bareE p ∧ (W33 p → W33 (bareE p)) := fun p hpm => bareE_fine p
  have ih2 : ∀ p ∈ arms, szA (bareA p) = szA p ∧ bareA (bareA p) = bareA p ∧ (W68 p → W68 (bareA p)) := fun p hpa => by
   obtain ⟨a1, a2, a3⟩ := bareP_fine p.Pat
   obtain ⟨b1, b2, b3⟩ := bareE_fine p.Body
   refine ⟨by rw [bareA_eq, szA_eq, szA_eq]; dsimp only; rw [a1, b1], by rw [bareA_eq p, bareA_eq]; dsimp only; rw [a2, b2], fun h => ?_⟩
   obtain ⟨h1, h2⟩ := (W68_iff _).1 h
   rw [bareA_eq]
   exact (W68_iff _).2 ⟨a3 h1, b3 h2⟩
  refine ⟨?_, ?_, fun hw => ?_⟩
  ·rw [bareE_mk, szE_eq, szE_eq]
   dsimp only
   rw [sumW_map fun x hx => (ih1 x hx).1, sumW_map fun x hx => (ih2 x hx).1]
  ·rw [bareE_mk, bareE_mk, map_idem fun x hx => (ih1 x hx).2.1, map_idem fun x hx => (ih2 x hx).2.1]
  ·obtain ⟨g1, g2, g3, g4, g5, ⟨g6, g7⟩, g8, g9⟩ := (W33_iff _).1 hw
   rw [bareE_mk]
   refine (W33_iff _).2 ⟨g1, atW, g3, g4, g5, ⟨by simpa using g6, fun y hy => ?_⟩, by simpa using g8, fun y hy => ?_⟩
   ·obtain ⟨x, hx, rfl⟩ := List.mem_map.1 hy
    exact (ih1 x hx).2.2 (g7 x hx)
   ·obtain ⟨x, hx, rfl⟩ := List.mem_map.1 hy
    exact (ih2 x hx).2.2 (g9 x hx)
termination_by t => t
decreasing_by
 ·have := List.sizeOf_lt_of_mem hpm
  simp only [AExpr.mk.sizeOf_spec]
  omega
 ·have := List.sizeOf_lt_of_mem hpa
  have : SizeOf.sizeOf p.Body < SizeOf.sizeOf p := by cases p; simp only [AArm.mk.sizeOf_spec]; omega
  simp only [AExpr.mk.sizeOf_spec]
  omega
theorem bareG_fine (p : AProg) (hw : W36 p) : szG (bareG p) = szG p ∧ bareG (bareG p) = bareG p ∧ W36 (bareG p) := by
 have f1 : ∀ x, szF (bareF x) = szF x := fun x => by unfold szF bareF; dsimp only; rw [(bareE_fine x.Body).1]
 have f2 : ∀ x, szH (bareH x) = szH x := fun x => by unfold szH bareH; dsimp only; rw [(bareE_fine x.Body).1]
 refine ⟨?_, ?_, ?_⟩
 ·unfold szG bareG
  dsimp only
  rw [(bareE_fine p.Init).1, sumW_map (w := szD) (E := bareD) fun x _ => rfl, sumW_map fun x _ => f1 x, sumW_map fun x _ => f2 x]
 ·unfold bareG
  dsimp only
  rw [(bareE_fine p.Init).2.1, map_idem (E := bareD) fun x _ => rfl, map_idem (E := bareF) fun x _ => by unfold bareF; dsimp only; rw [(bareE_fine x.Body).2.1], map_idem (E := bareH) fun x _ => by unfold bareH; dsimp only; rw [(bareE_fine x.Body).2.1]]
 ·obtain ⟨⟨w1, w2⟩, ⟨w3, w4⟩, w9, w10, w5, w11, w6, w7, w8⟩ := hw
  refine ⟨⟨by simpa [bareG] using w1, fun y hy => ?_⟩, ⟨by simpa [bareG] using w3, fun y hy => ?_⟩, w9, w10, w5, w11, (bareE_fine p.Init).2.2 w6, by simpa [bareG] using w7, fun y hy => ?_⟩
  ·obtain ⟨x, hx, rfl⟩ := List.mem_map.1 hy
   exact ⟨atW, (w2 x hx).2⟩
  ·obtain ⟨x, hx, rfl⟩ := List.mem_map.1 hy
   obtain ⟨g1, g2, g3, g4, g5⟩ := w4 x hx
   exact ⟨atW, g2, g3, g4, (bareE_fine x.Body).2.2 g5⟩
  ·obtain ⟨x, hx, rfl⟩ := List.mem_map.1 hy
   obtain ⟨g1, g2, g3, g4, g5⟩ := w8 x hx
   exact ⟨atW, g2, g3, g4, (bareE_fine x.Body).2.2 g5⟩
end Go.Proofs.YtappiofmkoelnaaGreatDoor.M
end
