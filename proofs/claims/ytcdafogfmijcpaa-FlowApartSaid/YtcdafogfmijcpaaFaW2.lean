/-
 The functions come to them.
-/
import Derived.Test.YtcdafogfmijcpaaFaM
import Derived.Test.YtcdafogfmijcpaaFaW1
import Derived.Test.YtcdafogfmijcpaaFaWJ
namespace Go.Proofs.Ytcdafogfmijcpaa.M
open Go.Proofs.YtcdafogfmijcpaaW.Ah Go.Proofs.Ytcdafogfmijcpaa
set_option linter.unusedVariables false
set_option linter.unusedSimpArgs false
set_option maxRecDepth 8000
attribute [local simp] T.t3 T.t4 T.t5 T.t9 T.t22 T.t23 T.t24 T.t26 T.t29 T.t30 T.t36 T.t39 T.t41 T.t42 T.t44 T.t47 T.t51 List.range List.range.loop
attribute [-simp] appendAV fillAV
theorem ok_flow_Check (F : Nat) (a0 : api_Code) (r : List (List (List Bool)) × Int) (h : flow_Check F a0 = some r) : RunF Try.prog T.T 8 [.agg (c26 a0)] (.tup [.ssl (encs c36 r.1) r.1.length false, .sc (.int .i64 r.2)]) := Flo.flow_Check_run a0 r h

theorem ok_flow_Height (F : Nat) (a0 : (List (List Bool))) (r : Int) (h : flow_Height F a0 = some r) : RunF Try.prog T.T 11 [.ssl (encs c42 a0) a0.length false] (.sc (.int .i64 r)) := by
 rw [flow_Height] at h
 refine RunF.z Try.func11 rfl rfl rfl rfl rfl (fun C hr => ?_)
 refine Stk.gen (fun t H n => t 0 = .ssl (encs c42 a0) a0.length false) (by simp) ?_
 rintro t H n f0
 refine Stk.sq ?_
 refine Stk.rg ?_
 refine Stk.run 1 (fun t H n => t 0 = .ssl (encs c42 a0) a0.length false) (fun J hJ => ?_) ?_
 ·simp [-splice, f0]
  exact hJ _ _ _ (by simp [f0])
 clear f0
 rintro t H n f0
 refine Stk.on ?_
 refine Stk.sq ?_
 refine Stk.rg ?_
 refine Stk.run 1 (fun t H n => t 0 = .ssl (encs c42 a0) a0.length false ∧ t 3 = .sc (.int .i64 0)) (fun J hJ => ?_) ?_
 ·simp [-splice, f0]
  exact hJ _ _ _ ⟨by simp [f0], by simp [-splice, f0]⟩
 clear f0
 rintro t H n ⟨f0, f3⟩
 refine Stk.on ?_
 refine Stk.sq ?_
 refine Stk.sq ?_
 refine Stk.rg ?_
 refine Stk.run 3 (fun t H n => t 3 = .sc (.int .i64 0) ∧ t 6 = .ssl (encs c42 a0) a0.length false ∧ t 7 = .sc (.int .i64 (a0.length : Int)) ∧ t 8 = .sc (.int .i64 0)) (fun J hJ => ?_) ?_
 ·simp [-splice, f0, f3]
  exact hJ _ _ _ ⟨by simp [f3], by simp [-splice, f0, f3], by simp [-splice, f0, f3], by simp [-splice, f0, f3]⟩
 clear f0 f3
 rintro t H n ⟨f3, f6, f7, f8⟩
 refine Stk.on ?_
 refine Stk.bk ?_
 refine Stk.lo (fun μ t H n => ∃ v1 : Int, ∃ v2 : Int, flow_Height_L0 F a0 μ v1 v2 = some r ∧ t 3 = .sc (.int .i64 v1) ∧ t 6 = .ssl (encs c42 a0) a0.length false ∧ t 7 = .sc (.int .i64 (a0.length : Int)) ∧ t 8 = .sc (.int .i64 v2)) F ⟨0, 0, h, f3, f6, f7, f8⟩ ?_
 clear h f3 f6 f7 f8
 rintro J1 hJ1 μ t H n ⟨v1, v2, h, f3, f6, f7, f8⟩
 cases μ with
 | zero => exact absurd h (by simp [flow_Height_L0])
 | succ μ =>
 rw [flow_Height_L0] at h
 refine Stk.sq ?_
 refine Stk.rg ?_
 refine Stk.run 1 (fun t H n => t 3 = .sc (.int .i64 v1) ∧ t 6 = .ssl (encs c42 a0) a0.length false ∧ t 7 = .sc (.int .i64 (a0.length : Int)) ∧ t 8 = .sc (.int .i64 v2) ∧ t 9 = .sc (.bool (decide (v2 < (a0.length : Int))))) (fun J hJ => ?_) ?_
 ·simp [-splice, f3, f6, f7, f8]
  exact hJ _ _ _ ⟨by simp [f3], by simp [f6], by simp [f7], by simp [f8], by simp [-splice, f3, f6, f7, f8]⟩
 clear f3 f6 f7 f8
 rintro t H n ⟨f3, f6, f7, f8, f9⟩
 refine Stk.on ?_
 refine Stk.sq ?_
 refine Stk.cond (decide (v2 < (a0.length : Int))) (by exact f9) (fun hb5 => ?_) (fun hb5 => ?_)
 ·have h := cT hb5 h
  refine Stk.sk ?_
  refine Stk.sq ?_
  refine Stk.bk ?_
  refine Stk.sq ?_
  refine Stk.rg ?_
  obtain ⟨x6, hx6, h⟩ := bnd h
  obtain ⟨i0x6, i1x6, i2x6, _⟩ := idx_ok hx6
  have ex6_0_42 : partOf T.T 42 (encs c42 a0) (v2.toNat) = some (.ssl (encs c4 x6) x6.length false) := by
    have e0 := part_elem0 (e := c42) (z := 1) (T := T.T) (ty := 42) T.t42 (by decide) (by decide) hx6 0 (by decide)
    (try simp only [Nat.mul_one, Nat.add_zero] at e0)
    exact e0.trans rfl
  refine Stk.run 3 (fun t H n => t 3 = .sc (.int .i64 v1) ∧ t 5 = .ssl (encs c4 x6) x6.length false ∧ t 6 = .ssl (encs c42 a0) a0.length false ∧ t 7 = .sc (.int .i64 (a0.length : Int)) ∧ t 8 = .sc (.int .i64 v2)) (fun J hJ => ?_) ?_
  ·simp [-splice, f3, f6, f7, f8, f9, i0x6, i1x6, pd42, ex6_0_42]
   exact hJ _ _ _ ⟨by simp [f3], by simp [-splice, f3, f6, f7, f8, f9, i0x6, i1x6, pd42, ex6_0_42], by simp [f6], by simp [f7], by simp [f8]⟩
  clear f3 f6 f7 f8 f9
  rintro t H n ⟨f3, f5, f6, f7, f8⟩
  refine Stk.on ?_
  refine Stk.rg ?_
  refine Stk.run 5 (fun t H n => t 3 = .sc (.int .i64 (if v1 < (x6.length : Int) then (x6.length : Int) else v1)) ∧ t 6 = .ssl (encs c42 a0) a0.length false ∧ t 7 = .sc (.int .i64 (a0.length : Int)) ∧ t 8 = .sc (.int .i64 v2)) (fun J hJ => ?_) ?_
  ·simp [-splice, f3, f5, f6, f7, f8]
   exact hJ _ _ _ ⟨by simp [-splice, f3, f5, f6, f7, f8], by simp [f6], by simp [f7], by simp [f8]⟩
  clear f3 f5 f6 f7 f8
  rintro t H n ⟨f3, f6, f7, f8⟩
  refine Stk.on ?_
  refine Stk.bn ?_
  refine Stk.rg ?_
  refine Stk.run 2 (fun t H n => t 3 = .sc (.int .i64 (if v1 < (x6.length : Int) then (x6.length : Int) else v1)) ∧ t 6 = .ssl (encs c42 a0) a0.length false ∧ t 7 = .sc (.int .i64 (a0.length : Int)) ∧ t 8 = .sc (.int .i64 (IntKind.i64.wrap (v2 + 1)))) (fun J hJ => ?_) ?_
  ·simp [-splice, f3, f6, f7, f8]
   exact hJ _ _ _ ⟨by simp [f3], by simp [f6], by simp [f7], by simp [-splice, f3, f6, f7, f8]⟩
  clear f3 f6 f7 f8
  rintro t H n ⟨f3, f6, f7, f8⟩
  refine Stk.on ?_
  exact Stk.ln μ (Nat.lt_succ_self _) (hJ1 _ _ _ _ ⟨(if v1 < (x6.length : Int) then (x6.length : Int) else v1), (IntKind.i64.wrap (v2 + 1)), h, f3, f6, f7, f8⟩)
 ·have h := cF hb5 h
  refine Stk.ex rfl ?_
  refine Stk.sq ?_
  refine Stk.rg ?_
  refine Stk.run 2 (fun t H n => t 2 = .sc (.int .i64 v1)) (fun J hJ => ?_) ?_
  ·simp [-splice, f3, f6, f7, f8, f9]
   exact hJ _ _ _ (by simp [-splice, f3, f6, f7, f8, f9])
  clear f3 f6 f7 f8 f9
  rintro t H n f2
  refine Stk.on ?_
  refine Stk.rt ?_
  have hq := Option.some.inj h; subst hq
  exact (hr _ _ _ (.sc (.int .i64 v1)) ([]) (by simp [f2]) (.inr (.inr (.free (rfl))))).1
theorem ok_L21_awake (F : Nat)  (r : Bool) (h : L21_awake F  = some r) : RunF Try.prog T.T 7 [] (.sc (.bool r)) := by
 rw [L21_awake] at h
 refine RunF.z Try.func7 rfl rfl rfl rfl rfl (fun C hr => ?_)
 refine Stk.gen (fun t H n => True) trivial ?_
 rintro t H n -
 refine Stk.sq ?_
 refine Stk.rg ?_
 refine Stk.run 1 (fun t H n => True) (fun J hJ => ?_) ?_
 ·simp [-splice, ]
  exact hJ _ _ _ ⟨⟩
 rintro t H n _
 refine Stk.on ?_
 refine Stk.sq ?_
 refine Stk.rg ?_
 refine Stk.ov (vop_build T.t44 rfl rfl (cs := c44 (api_Inst.mk 0 0 0 0)) (cs' := c44 (api_Inst.mk 2 0 0 0)) rfl (.cons rfl rfl rfl rfl rfl (rfl) (by rw [len44]; decide) (st_44_0_3 _ _) (.nil))) (by simp []) rfl (fun t' ht' => ?_)
 refine Stk.gen (fun t H n => t 6 = .agg (c44 (api_Inst.mk 2 0 0 0))) (by simp [ht']) ?_
 clear  ht' t'
 rintro t H n f6
 refine Stk.ov (vop_build T.t44 rfl rfl (cs := c44 (api_Inst.mk 0 0 0 0)) (cs' := c44 (api_Inst.mk 7 0 0 0)) rfl (.cons rfl rfl rfl rfl rfl (rfl) (by rw [len44]; decide) (st_44_0_3 _ _) (.nil))) (by simp [f6]) rfl (fun t' ht' => ?_)
 refine Stk.gen (fun t H n => t 6 = .agg (c44 (api_Inst.mk 2 0 0 0)) ∧ t 7 = .agg (c44 (api_Inst.mk 7 0 0 0))) ⟨by simp [ht', f6], by simp [ht']⟩ ?_
 clear f6 ht' t'
 rintro t H n ⟨f6, f7⟩
 refine Stk.om (mop_buildN (c := c44) (z := 4) T.t39 rfl T.t44 rfl (by decide) rfl (by decide) [(api_Inst.mk 2 0 0 0), (api_Inst.mk 7 0 0 0)] rfl (.cons f6 rfl rfl rfl (len44 _) (by simp [length_encs]) (splice_next (c := c44) [] _ (api_Inst.mk 2 0 0 0) rfl (by simp)) (.cons f7 rfl rfl rfl (len44 _) (by simp [length_encs]) (splice_next (c := c44) [(api_Inst.mk 2 0 0 0)] _ (api_Inst.mk 7 0 0 0) rfl (by simp)) (.nil)))) (by simp [f6, f7]) rfl (fun t' ht' => ?_)
 refine Stk.gen (fun t H n => ∃ b1, t 8 = .osl b1 0 ([(api_Inst.mk 2 0 0 0), (api_Inst.mk 7 0 0 0)] : List api_Inst).length (some ([(api_Inst.mk 2 0 0 0), (api_Inst.mk 7 0 0 0)] : List api_Inst).length) ∧ H b1 = some (.cells (encs c44 ([(api_Inst.mk 2 0 0 0), (api_Inst.mk 7 0 0 0)] : List api_Inst)) 44) ∧ b1 < n) ⟨n, by simp [ht'], upd_same _ _ _, Nat.lt_succ_self _⟩ ?_
 clear f6 f7 ht' t'
 rintro t H n ⟨b1, f8, b_b1, l_b1⟩
 refine Stk.wkf trivial [b1] 8 (.ssl (encs c44 ([(api_Inst.mk 2 0 0 0), (api_Inst.mk 7 0 0 0)] : List api_Inst)) ([(api_Inst.mk 2 0 0 0), (api_Inst.mk 7 0 0 0)] : List api_Inst).length false) (by rw [f8]; exact .inr (.inr (view_row fr44 b_b1 (by simp) _))) (fun t' H' ht' hH' => ?_)
 refine Stk.gen (fun t H n => t 8 = .ssl (encs c44 ([(api_Inst.mk 2 0 0 0), (api_Inst.mk 7 0 0 0)] : List api_Inst)) ([(api_Inst.mk 2 0 0 0), (api_Inst.mk 7 0 0 0)] : List api_Inst).length false) (by simp [ht', f8]) ?_
 clear f8 b_b1 l_b1 hH' ht' t' H'
 rintro t H n f8
 refine Stk.ov (vop_build T.t41 rfl rfl (cs := c41 (api_Func.mk ⟨#[]⟩ 0 0 [])) (cs' := c41 (api_Func.mk ⟨#[]⟩ 1 2 ([(api_Inst.mk 2 0 0 0), (api_Inst.mk 7 0 0 0)] : List api_Inst))) rfl (.cons rfl rfl rfl rfl rfl (rfl) (by rw [len41]; decide) (st_41_1_3 _ _) (.cons rfl rfl rfl rfl rfl (rfl) (by rw [len41]; decide) (st_41_2_3 _ _) (.cons f8 rfl rfl rfl rfl (rfl) (by rw [len41]; decide) (st_41_3_39 _ _) (.nil))))) (by simp [f8]) rfl (fun t' ht' => ?_)
 refine Stk.gen (fun t H n => t 9 = .agg (c41 (api_Func.mk ⟨#[]⟩ 1 2 ([(api_Inst.mk 2 0 0 0), (api_Inst.mk 7 0 0 0)] : List api_Inst)))) (by simp [ht']) ?_
 clear f8 ht' t'
 rintro t H n f9
 refine Stk.oz T.t41 (cs := c41 (api_Func.mk ⟨#[]⟩ 0 0 [])) (by rfl) rfl (by simp [f9]) rfl (fun t' ht' => ?_)
 refine Stk.gen (fun t H n => ∃ b2, t 1 = .own b2 0 ∧ t 9 = .agg (c41 (api_Func.mk ⟨#[]⟩ 1 2 ([(api_Inst.mk 2 0 0 0), (api_Inst.mk 7 0 0 0)] : List api_Inst))) ∧ H b2 = some (.cells (c41 (api_Func.mk ⟨#[]⟩ 0 0 [])) 41) ∧ b2 < n) ⟨n, by simp [ht'], by simp [ht', f9], upd_same _ _ _, Nat.lt_succ_self _⟩ ?_
 clear f9 ht' t'
 rintro t H n ⟨b2, f1, f9, b_b2, l_b2⟩
 refine Stk.om (mop_store (z := 4) rfl f1 b_b2 f9 (len41 _) (by rw [len41]; decide) (ok41 _) (st_41_0_41 _ _)) (by simp [f1, f9]) rfl (fun t' ht' => ?_)
 refine Stk.gen (fun t H n => t 1 = .own b2 0 ∧ H b2 = some (.cells (c41 (api_Func.mk ⟨#[]⟩ 1 2 ([(api_Inst.mk 2 0 0 0), (api_Inst.mk 7 0 0 0)] : List api_Inst))) 41) ∧ b2 < n) ⟨by simp [ht', f1], upd_same _ _ _, l_b2⟩ ?_
 clear f1 f9 b_b2 l_b2 ht' t'
 rintro t H n ⟨f1, b_b2, l_b2⟩
 refine Stk.on ?_
 refine Stk.sq ?_
 refine Stk.rg ?_
 refine Stk.run 1 (fun t H n => t 11 = .agg (c41 (api_Func.mk ⟨#[]⟩ 1 2 ([(api_Inst.mk 2 0 0 0), (api_Inst.mk 7 0 0 0)] : List api_Inst)))) (fun J hJ => ?_) ?_
 ·simp [-splice, f1, b_b2, ld_41_0_41]
  exact hJ _ _ _ (by simp [-splice, f1, b_b2, ld_41_0_41])
 clear f1 b_b2 l_b2
 rintro t H n f11
 refine Stk.om (mop_buildN (c := c41) (z := 4) T.t22 rfl T.t41 rfl (by decide) rfl (by decide) [(api_Func.mk ⟨#[]⟩ 1 2 ([(api_Inst.mk 2 0 0 0), (api_Inst.mk 7 0 0 0)] : List api_Inst))] rfl (.cons f11 rfl rfl rfl (len41 _) (by simp [length_encs]) (splice_next (c := c41) [] _ (api_Func.mk ⟨#[]⟩ 1 2 ([(api_Inst.mk 2 0 0 0), (api_Inst.mk 7 0 0 0)] : List api_Inst)) rfl (by simp)) (.nil))) (by simp [f11]) rfl (fun t' ht' => ?_)
 refine Stk.gen (fun t H n => ∃ b3, t 12 = .osl b3 0 ([(api_Func.mk ⟨#[]⟩ 1 2 ([(api_Inst.mk 2 0 0 0), (api_Inst.mk 7 0 0 0)] : List api_Inst))] : List api_Func).length (some ([(api_Func.mk ⟨#[]⟩ 1 2 ([(api_Inst.mk 2 0 0 0), (api_Inst.mk 7 0 0 0)] : List api_Inst))] : List api_Func).length) ∧ H b3 = some (.cells (encs c41 ([(api_Func.mk ⟨#[]⟩ 1 2 ([(api_Inst.mk 2 0 0 0), (api_Inst.mk 7 0 0 0)] : List api_Inst))] : List api_Func)) 41) ∧ b3 < n) ⟨n, by simp [ht'], upd_same _ _ _, Nat.lt_succ_self _⟩ ?_
 clear f11 ht' t'
 rintro t H n ⟨b3, f12, b_b3, l_b3⟩
 refine Stk.wkf trivial [b3] 12 (.ssl (encs c41 ([(api_Func.mk ⟨#[]⟩ 1 2 ([(api_Inst.mk 2 0 0 0), (api_Inst.mk 7 0 0 0)] : List api_Inst))] : List api_Func)) ([(api_Func.mk ⟨#[]⟩ 1 2 ([(api_Inst.mk 2 0 0 0), (api_Inst.mk 7 0 0 0)] : List api_Inst))] : List api_Func).length false) (by rw [f12]; exact .inr (.inr (view_row fr41 b_b3 (by simp) _))) (fun t' H' ht' hH' => ?_)
 refine Stk.gen (fun t H n => t 12 = .ssl (encs c41 ([(api_Func.mk ⟨#[]⟩ 1 2 ([(api_Inst.mk 2 0 0 0), (api_Inst.mk 7 0 0 0)] : List api_Inst))] : List api_Func)) ([(api_Func.mk ⟨#[]⟩ 1 2 ([(api_Inst.mk 2 0 0 0), (api_Inst.mk 7 0 0 0)] : List api_Inst))] : List api_Func).length false) (by simp [ht', f12]) ?_
 clear f12 b_b3 l_b3 hH' ht' t' H'
 rintro t H n f12
 refine Stk.ov (vop_build T.t26 rfl rfl (cs := c26 (api_Code.mk [] [] [])) (cs' := c26 (api_Code.mk ([(api_Func.mk ⟨#[]⟩ 1 2 ([(api_Inst.mk 2 0 0 0), (api_Inst.mk 7 0 0 0)] : List api_Inst))] : List api_Func) [] [])) rfl (.cons f12 rfl rfl rfl rfl (rfl) (by rw [len26]; decide) (st_26_0_22 _ _) (.nil))) (by simp [f12]) rfl (fun t' ht' => ?_)
 refine Stk.gen (fun t H n => t 13 = .agg (c26 (api_Code.mk ([(api_Func.mk ⟨#[]⟩ 1 2 ([(api_Inst.mk 2 0 0 0), (api_Inst.mk 7 0 0 0)] : List api_Inst))] : List api_Func) [] []))) (by simp [ht']) ?_
 clear f12 ht' t'
 rintro t H n f13
 obtain ⟨x4, hx4, h⟩ := bnd h
 refine Stk.cv (g := 8) (args := [.agg (c26 (api_Code.mk ([(api_Func.mk ⟨#[]⟩ 1 2 ([(api_Inst.mk 2 0 0 0), (api_Inst.mk 7 0 0 0)] : List api_Inst))] : List api_Func) [] []))]) (args' := [.agg (c26 (api_Code.mk ([(api_Func.mk ⟨#[]⟩ 1 2 ([(api_Inst.mk 2 0 0 0), (api_Inst.mk 7 0 0 0)] : List api_Inst))] : List api_Func) [] []))]) (v := .tup [.ssl (encs c36 x4.1) x4.1.length false, .sc (.int .i64 x4.2)]) [] (ok_flow_Check F _ _ hx4) (by simp [f13]) rfl rfl (by simp [f13]) (.cons (.free (fr26 _)) (.nil)) (.inl ⟨rfl, by simp [free, freeL, freeL_encs fr36]⟩) (fun t' ht' => ?_)
 refine Stk.gen (fun t H n => t 14 = .tup [.ssl (encs c36 x4.1) x4.1.length false, .sc (.int .i64 x4.2)]) (by simp [ht']) ?_
 clear f13 ht' t'
 rintro t H n f14
 refine Stk.run 5 (fun t H n => t 2 = .ssl (encs c36 x4.1) x4.1.length false ∧ t 3 = .sc (.int .i64 x4.2)) (fun J hJ => ?_) ?_
 ·simp [-splice, f14]
  exact hJ _ _ _ ⟨by simp [-splice, f14], by simp [-splice, f14]⟩
 clear f14
 rintro t H n ⟨f2, f3⟩
 refine Stk.on ?_
 refine Stk.sq ?_
 refine Stk.rg ?_
 refine Stk.ov (vop_build T.t44 rfl rfl (cs := c44 (api_Inst.mk 0 0 0 0)) (cs' := c44 (api_Inst.mk 7 0 0 0)) rfl (.cons rfl rfl rfl rfl rfl (rfl) (by rw [len44]; decide) (st_44_0_3 _ _) (.nil))) (by simp [f2, f3]) rfl (fun t' ht' => ?_)
 refine Stk.gen (fun t H n => t 2 = .ssl (encs c36 x4.1) x4.1.length false ∧ t 3 = .sc (.int .i64 x4.2) ∧ t 18 = .agg (c44 (api_Inst.mk 7 0 0 0))) ⟨by simp [ht', f2], by simp [ht', f3], by simp [ht']⟩ ?_
 clear f2 f3 ht' t'
 rintro t H n ⟨f2, f3, f18⟩
 refine Stk.om (mop_buildN (c := c44) (z := 4) T.t39 rfl T.t44 rfl (by decide) rfl (by decide) [(api_Inst.mk 7 0 0 0)] rfl (.cons f18 rfl rfl rfl (len44 _) (by simp [length_encs]) (splice_next (c := c44) [] _ (api_Inst.mk 7 0 0 0) rfl (by simp)) (.nil))) (by simp [f2, f3, f18]) rfl (fun t' ht' => ?_)
 refine Stk.gen (fun t H n => ∃ b5, t 2 = .ssl (encs c36 x4.1) x4.1.length false ∧ t 3 = .sc (.int .i64 x4.2) ∧ t 19 = .osl b5 0 ([(api_Inst.mk 7 0 0 0)] : List api_Inst).length (some ([(api_Inst.mk 7 0 0 0)] : List api_Inst).length) ∧ H b5 = some (.cells (encs c44 ([(api_Inst.mk 7 0 0 0)] : List api_Inst)) 44) ∧ b5 < n) ⟨n, by simp [ht', f2], by simp [ht', f3], by simp [ht'], upd_same _ _ _, Nat.lt_succ_self _⟩ ?_
 clear f2 f3 f18 ht' t'
 rintro t H n ⟨b5, f2, f3, f19, b_b5, l_b5⟩
 refine Stk.wkf trivial [b5] 19 (.ssl (encs c44 ([(api_Inst.mk 7 0 0 0)] : List api_Inst)) ([(api_Inst.mk 7 0 0 0)] : List api_Inst).length false) (by rw [f19]; exact .inr (.inr (view_row fr44 b_b5 (by simp) _))) (fun t' H' ht' hH' => ?_)
 refine Stk.gen (fun t H n => t 2 = .ssl (encs c36 x4.1) x4.1.length false ∧ t 3 = .sc (.int .i64 x4.2) ∧ t 19 = .ssl (encs c44 ([(api_Inst.mk 7 0 0 0)] : List api_Inst)) ([(api_Inst.mk 7 0 0 0)] : List api_Inst).length false) ⟨by simp [ht', f2], by simp [ht', f3], by simp [ht', f19]⟩ ?_
 clear f2 f3 f19 b_b5 l_b5 hH' ht' t' H'
 rintro t H n ⟨f2, f3, f19⟩
 refine Stk.ov (vop_build T.t41 rfl rfl (cs := c41 (api_Func.mk ⟨#[]⟩ 0 0 [])) (cs' := c41 (api_Func.mk ⟨#[]⟩ 0 2 ([(api_Inst.mk 7 0 0 0)] : List api_Inst))) rfl (.cons rfl rfl rfl rfl rfl (rfl) (by rw [len41]; decide) (st_41_2_3 _ _) (.cons f19 rfl rfl rfl rfl (rfl) (by rw [len41]; decide) (st_41_3_39 _ _) (.nil)))) (by simp [f2, f3, f19]) rfl (fun t' ht' => ?_)
 refine Stk.gen (fun t H n => t 2 = .ssl (encs c36 x4.1) x4.1.length false ∧ t 3 = .sc (.int .i64 x4.2) ∧ t 20 = .agg (c41 (api_Func.mk ⟨#[]⟩ 0 2 ([(api_Inst.mk 7 0 0 0)] : List api_Inst)))) ⟨by simp [ht', f2], by simp [ht', f3], by simp [ht']⟩ ?_
 clear f2 f3 f19 ht' t'
 rintro t H n ⟨f2, f3, f20⟩
 refine Stk.om (mop_buildN (c := c41) (z := 4) T.t22 rfl T.t41 rfl (by decide) rfl (by decide) [(api_Func.mk ⟨#[]⟩ 0 2 ([(api_Inst.mk 7 0 0 0)] : List api_Inst))] rfl (.cons f20 rfl rfl rfl (len41 _) (by simp [length_encs]) (splice_next (c := c41) [] _ (api_Func.mk ⟨#[]⟩ 0 2 ([(api_Inst.mk 7 0 0 0)] : List api_Inst)) rfl (by simp)) (.nil))) (by simp [f2, f3, f20]) rfl (fun t' ht' => ?_)
 refine Stk.gen (fun t H n => ∃ b6, t 2 = .ssl (encs c36 x4.1) x4.1.length false ∧ t 3 = .sc (.int .i64 x4.2) ∧ t 21 = .osl b6 0 ([(api_Func.mk ⟨#[]⟩ 0 2 ([(api_Inst.mk 7 0 0 0)] : List api_Inst))] : List api_Func).length (some ([(api_Func.mk ⟨#[]⟩ 0 2 ([(api_Inst.mk 7 0 0 0)] : List api_Inst))] : List api_Func).length) ∧ H b6 = some (.cells (encs c41 ([(api_Func.mk ⟨#[]⟩ 0 2 ([(api_Inst.mk 7 0 0 0)] : List api_Inst))] : List api_Func)) 41) ∧ b6 < n) ⟨n, by simp [ht', f2], by simp [ht', f3], by simp [ht'], upd_same _ _ _, Nat.lt_succ_self _⟩ ?_
 clear f2 f3 f20 ht' t'
 rintro t H n ⟨b6, f2, f3, f21, b_b6, l_b6⟩
 refine Stk.wkf trivial [b6] 21 (.ssl (encs c41 ([(api_Func.mk ⟨#[]⟩ 0 2 ([(api_Inst.mk 7 0 0 0)] : List api_Inst))] : List api_Func)) ([(api_Func.mk ⟨#[]⟩ 0 2 ([(api_Inst.mk 7 0 0 0)] : List api_Inst))] : List api_Func).length false) (by rw [f21]; exact .inr (.inr (view_row fr41 b_b6 (by simp) _))) (fun t' H' ht' hH' => ?_)
 refine Stk.gen (fun t H n => t 2 = .ssl (encs c36 x4.1) x4.1.length false ∧ t 3 = .sc (.int .i64 x4.2) ∧ t 21 = .ssl (encs c41 ([(api_Func.mk ⟨#[]⟩ 0 2 ([(api_Inst.mk 7 0 0 0)] : List api_Inst))] : List api_Func)) ([(api_Func.mk ⟨#[]⟩ 0 2 ([(api_Inst.mk 7 0 0 0)] : List api_Inst))] : List api_Func).length false) ⟨by simp [ht', f2], by simp [ht', f3], by simp [ht', f21]⟩ ?_
 clear f2 f3 f21 b_b6 l_b6 hH' ht' t' H'
 rintro t H n ⟨f2, f3, f21⟩
 refine Stk.ov (vop_build T.t26 rfl rfl (cs := c26 (api_Code.mk [] [] [])) (cs' := c26 (api_Code.mk ([(api_Func.mk ⟨#[]⟩ 0 2 ([(api_Inst.mk 7 0 0 0)] : List api_Inst))] : List api_Func) [] [])) rfl (.cons f21 rfl rfl rfl rfl (rfl) (by rw [len26]; decide) (st_26_0_22 _ _) (.nil))) (by simp [f2, f3, f21]) rfl (fun t' ht' => ?_)
 refine Stk.gen (fun t H n => t 2 = .ssl (encs c36 x4.1) x4.1.length false ∧ t 3 = .sc (.int .i64 x4.2) ∧ t 22 = .agg (c26 (api_Code.mk ([(api_Func.mk ⟨#[]⟩ 0 2 ([(api_Inst.mk 7 0 0 0)] : List api_Inst))] : List api_Func) [] []))) ⟨by simp [ht', f2], by simp [ht', f3], by simp [ht']⟩ ?_
 clear f2 f3 f21 ht' t'
 rintro t H n ⟨f2, f3, f22⟩
 obtain ⟨x7, hx7, h⟩ := bnd h
 refine Stk.cv (g := 8) (args := [.agg (c26 (api_Code.mk ([(api_Func.mk ⟨#[]⟩ 0 2 ([(api_Inst.mk 7 0 0 0)] : List api_Inst))] : List api_Func) [] []))]) (args' := [.agg (c26 (api_Code.mk ([(api_Func.mk ⟨#[]⟩ 0 2 ([(api_Inst.mk 7 0 0 0)] : List api_Inst))] : List api_Func) [] []))]) (v := .tup [.ssl (encs c36 x7.1) x7.1.length false, .sc (.int .i64 x7.2)]) [] (ok_flow_Check F _ _ hx7) (by simp [f2, f3, f22]) rfl rfl (by simp [f2, f3, f22]) (.cons (.free (fr26 _)) (.nil)) (.inl ⟨rfl, by simp [free, freeL, freeL_encs fr36]⟩) (fun t' ht' => ?_)
 refine Stk.gen (fun t H n => t 2 = .ssl (encs c36 x4.1) x4.1.length false ∧ t 3 = .sc (.int .i64 x4.2) ∧ t 23 = .tup [.ssl (encs c36 x7.1) x7.1.length false, .sc (.int .i64 x7.2)]) ⟨by simp [ht', f2], by simp [ht', f3], by simp [ht']⟩ ?_
 clear f2 f3 f22 ht' t'
 rintro t H n ⟨f2, f3, f23⟩
 refine Stk.run 5 (fun t H n => t 2 = .ssl (encs c36 x4.1) x4.1.length false ∧ t 3 = .sc (.int .i64 x4.2) ∧ t 5 = .sc (.int .i64 x7.2)) (fun J hJ => ?_) ?_
 ·simp [-splice, f2, f3, f23]
  exact hJ _ _ _ ⟨by simp [f2], by simp [f3], by simp [-splice, f2, f3, f23]⟩
 clear f2 f3 f23
 rintro t H n ⟨f2, f3, f5⟩
 refine Stk.on ?_
 refine Stk.sq ?_
 refine Stk.rg ?_
 refine Stk.run 3 (fun t H n => t 2 = .ssl (encs c36 x4.1) x4.1.length false ∧ t 5 = .sc (.int .i64 x7.2) ∧ t 28 = .sc (.bool (x4.2 == 0))) (fun J hJ => ?_) ?_
 ·simp [-splice, f2, f3, f5]
  exact hJ _ _ _ ⟨by simp [f2], by simp [f5], by simp [-splice, f2, f3, f5]⟩
 clear f2 f3 f5
 rintro t H n ⟨f2, f5, f28⟩
 refine Stk.jo 4 (fun t H n => t 2 = .ssl (encs c36 x4.1) x4.1.length false ∧ t 5 = .sc (.int .i64 x7.2) ∧ t 32 = .sc (.bool ((x4.2 == 0) && ((x4.1.length : Int) == 1)))) (fun J1 hJ1 => ?_) ?_
 ·rcases Bool.eq_false_or_eq_true (x4.2 == 0) with hb1 | hb1
  ·rw [hb1] at f28
   refine Stk.run 4 (fun t H n => t 2 = .ssl (encs c36 x4.1) x4.1.length false ∧ t 5 = .sc (.int .i64 x7.2) ∧ t 32 = .sc (.bool ((x4.1.length : Int) == 1))) (fun J hJ => ?_) ?_
   ·simp [-splice, f2, f5, f28]
    exact hJ _ _ _ ⟨by simp [f2], by simp [f5], by simp [-splice, f2, f5, f28]⟩
   clear f2 f5 f28
   rintro t H n ⟨f2, f5, f32⟩
   refine Stk.on ?_
   exact Stk.ln 0 (by decide) (hJ1 _ _ _ ⟨f2, f5, f32.trans (congrArg (fun q => AV.sc (.bool q)) (by rw [hb1]; rfl))⟩)
  ·rw [hb1] at f28
   refine Stk.run 4 (fun t H n => t 2 = .ssl (encs c36 x4.1) x4.1.length false ∧ t 5 = .sc (.int .i64 x7.2) ∧ t 32 = .sc (.bool false)) (fun J hJ => ?_) ?_
   ·simp [-splice, f2, f5, f28]
    exact hJ _ _ _ ⟨by simp [f2], by simp [f5], by simp [-splice, f2, f5, f28]⟩
   clear f2 f5 f28
   rintro t H n ⟨f2, f5, f32⟩
   refine Stk.on ?_
   exact Stk.ln 0 (by decide) (hJ1 _ _ _ ⟨f2, f5, f32.trans (congrArg (fun q => AV.sc (.bool q)) (by rw [hb1]; rfl))⟩)
 clear f2 f5 f28
 rintro t H n ⟨f2, f5, f32⟩
 refine Stk.run 1 (fun t H n => t 2 = .ssl (encs c36 x4.1) x4.1.length false ∧ t 5 = .sc (.int .i64 x7.2) ∧ t 33 = .sc (.bool ((x4.2 == 0) && ((x4.1.length : Int) == 1)))) (fun J hJ => ?_) ?_
 ·simp [-splice, f2, f5, f32]
  exact hJ _ _ _ ⟨by simp [f2], by simp [f5], by simp [-splice, f2, f5, f32]⟩
 clear f2 f5 f32
 rintro t H n ⟨f2, f5, f33⟩
 obtain ⟨K2, hK2, h⟩ := jnd h
 refine Stk.jo 6 (fun t H n => ∃ v8 : Bool, K2 v8 = some r ∧ t 2 = .ssl (encs c36 x4.1) x4.1.length false ∧ t 5 = .sc (.int .i64 x7.2) ∧ t 39 = .sc (.bool v8)) (fun J2 hJ2 => ?_) ?_
 ·rcases Bool.eq_false_or_eq_true ((x4.2 == 0) && ((x4.1.length : Int) == 1)) with hb2 | hb2
  ·rw [hb2] at f33
   replace h := cT hb2 h
   obtain ⟨x9, hx9, h⟩ := bnd h
   obtain ⟨i0x9, i1x9, i2x9, _⟩ := idx_ok hx9
   have i5x9 : 0 < x4.1.length := by omega
   have i6x9 : ¬ x4.1 = [] := List.ne_nil_of_length_pos i5x9
   have ex9_0_36 : partOf T.T 36 (encs c36 x4.1) 0 = some (.ssl (encs c42 x9) x9.length false) := by
     have e0 := part_elem0 (e := c36) (z := 1) (T := T.T) (ty := 36) T.t36 (by decide) (by decide) hx9 0 (by decide)
     (try simp only [Nat.mul_one, Nat.add_zero, Int.toNat_ofNat, Nat.zero_mul, Nat.zero_add] at e0)
     exact e0.trans rfl
   refine Stk.run 6 (fun t H n => t 2 = .ssl (encs c36 x4.1) x4.1.length false ∧ t 5 = .sc (.int .i64 x7.2) ∧ t 39 = .sc (.bool ((x9.length : Int) == 2))) (fun J hJ => ?_) ?_
   ·simp [-splice, f2, f5, f33, i0x9, i1x9, i5x9, i6x9, pd36, ex9_0_36]
    exact hJ _ _ _ ⟨by simp [f2], by simp [f5], by simp [-splice, f2, f5, f33, i0x9, i1x9, i5x9, i6x9, pd36, ex9_0_36]⟩
   clear f2 f5 f33
   rintro t H n ⟨f2, f5, f39⟩
   refine Stk.on ?_
   exact Stk.ln 0 (by decide) (hJ2 _ _ _ ⟨((x9.length : Int) == 2), h, f2, f5, f39⟩)
  ·rw [hb2] at f33
   replace h := cF hb2 h
   refine Stk.run 6 (fun t H n => t 2 = .ssl (encs c36 x4.1) x4.1.length false ∧ t 5 = .sc (.int .i64 x7.2) ∧ t 39 = .sc (.bool false)) (fun J hJ => ?_) ?_
   ·simp [-splice, f2, f5, f33]
    exact hJ _ _ _ ⟨by simp [f2], by simp [f5], by simp [-splice, f2, f5, f33]⟩
   clear f2 f5 f33
   rintro t H n ⟨f2, f5, f39⟩
   refine Stk.on ?_
   exact Stk.ln 0 (by decide) (hJ2 _ _ _ ⟨false, h, f2, f5, f39⟩)
 clear h f2 f5 f33
 rintro t H n ⟨v8, h, f2, f5, f39⟩
 subst hK2
 refine Stk.run 1 (fun t H n => t 2 = .ssl (encs c36 x4.1) x4.1.length false ∧ t 5 = .sc (.int .i64 x7.2) ∧ t 40 = .sc (.bool v8)) (fun J hJ => ?_) ?_
 ·simp [-splice, f2, f5, f39]
  exact hJ _ _ _ ⟨by simp [f2], by simp [f5], by simp [-splice, f2, f5, f39]⟩
 clear f2 f5 f39
 rintro t H n ⟨f2, f5, f40⟩
 obtain ⟨K3, hK3, h⟩ := jnd h
 refine Stk.jo 8 (fun t H n => ∃ v10 : Bool, K3 v10 = some r ∧ t 2 = .ssl (encs c36 x4.1) x4.1.length false ∧ t 5 = .sc (.int .i64 x7.2) ∧ t 48 = .sc (.bool v10)) (fun J3 hJ3 => ?_) ?_
 ·rcases Bool.eq_false_or_eq_true v8 with hb3 | hb3
  ·rw [hb3] at f40
   replace h := cT hb3 h
   obtain ⟨x11, hx11, h⟩ := bnd h
   obtain ⟨i0x11, i1x11, i2x11, _⟩ := idx_ok hx11
   have i5x11 : 0 < x4.1.length := by omega
   have i6x11 : ¬ x4.1 = [] := List.ne_nil_of_length_pos i5x11
   have ex11_0_36 : partOf T.T 36 (encs c36 x4.1) 0 = some (.ssl (encs c42 x11) x11.length false) := by
     have e0 := part_elem0 (e := c36) (z := 1) (T := T.T) (ty := 36) T.t36 (by decide) (by decide) hx11 0 (by decide)
     (try simp only [Nat.mul_one, Nat.add_zero, Int.toNat_ofNat, Nat.zero_mul, Nat.zero_add] at e0)
     exact e0.trans rfl
   obtain ⟨x12, hx12, h⟩ := bnd h
   obtain ⟨i0x12, i1x12, i2x12, _⟩ := idx_ok hx12
   have i5x12 : 0 < x11.length := by omega
   have i6x12 : ¬ x11 = [] := List.ne_nil_of_length_pos i5x12
   have ex12_0_42 : partOf T.T 42 (encs c42 x11) 0 = some (.ssl (encs c4 x12) x12.length false) := by
     have e0 := part_elem0 (e := c42) (z := 1) (T := T.T) (ty := 42) T.t42 (by decide) (by decide) hx12 0 (by decide)
     (try simp only [Nat.mul_one, Nat.add_zero, Int.toNat_ofNat, Nat.zero_mul, Nat.zero_add] at e0)
     exact e0.trans rfl
   refine Stk.run 8 (fun t H n => t 2 = .ssl (encs c36 x4.1) x4.1.length false ∧ t 5 = .sc (.int .i64 x7.2) ∧ t 48 = .sc (.bool ((x12.length : Int) == 1))) (fun J hJ => ?_) ?_
   ·simp [-splice, f2, f5, f40, i0x11, i1x11, i5x11, i6x11, pd36, ex11_0_36, i0x12, i1x12, i5x12, i6x12, pd42, ex12_0_42]
    exact hJ _ _ _ ⟨by simp [f2], by simp [f5], by simp [-splice, f2, f5, f40, i0x11, i1x11, i5x11, i6x11, pd36, ex11_0_36, i0x12, i1x12, i5x12, i6x12, pd42, ex12_0_42]⟩
   clear f2 f5 f40
   rintro t H n ⟨f2, f5, f48⟩
   refine Stk.on ?_
   exact Stk.ln 0 (by decide) (hJ3 _ _ _ ⟨((x12.length : Int) == 1), h, f2, f5, f48⟩)
  ·rw [hb3] at f40
   replace h := cF hb3 h
   refine Stk.run 8 (fun t H n => t 2 = .ssl (encs c36 x4.1) x4.1.length false ∧ t 5 = .sc (.int .i64 x7.2) ∧ t 48 = .sc (.bool false)) (fun J hJ => ?_) ?_
   ·simp [-splice, f2, f5, f40]
    exact hJ _ _ _ ⟨by simp [f2], by simp [f5], by simp [-splice, f2, f5, f40]⟩
   clear f2 f5 f40
   rintro t H n ⟨f2, f5, f48⟩
   refine Stk.on ?_
   exact Stk.ln 0 (by decide) (hJ3 _ _ _ ⟨false, h, f2, f5, f48⟩)
 clear h f2 f5 f40
 rintro t H n ⟨v10, h, f2, f5, f48⟩
 subst hK3
 refine Stk.run 1 (fun t H n => t 2 = .ssl (encs c36 x4.1) x4.1.length false ∧ t 5 = .sc (.int .i64 x7.2) ∧ t 49 = .sc (.bool v10)) (fun J hJ => ?_) ?_
 ·simp [-splice, f2, f5, f48]
  exact hJ _ _ _ ⟨by simp [f2], by simp [f5], by simp [-splice, f2, f5, f48]⟩
 clear f2 f5 f48
 rintro t H n ⟨f2, f5, f49⟩
 obtain ⟨K4, hK4, h⟩ := jnd h
 refine Stk.jo 8 (fun t H n => ∃ v13 : Bool, K4 v13 = some r ∧ t 2 = .ssl (encs c36 x4.1) x4.1.length false ∧ t 5 = .sc (.int .i64 x7.2) ∧ t 57 = .sc (.bool v13)) (fun J4 hJ4 => ?_) ?_
 ·rcases Bool.eq_false_or_eq_true v10 with hb4 | hb4
  ·rw [hb4] at f49
   replace h := cT hb4 h
   obtain ⟨x14, hx14, h⟩ := bnd h
   obtain ⟨i0x14, i1x14, i2x14, _⟩ := idx_ok hx14
   have i5x14 : 0 < x4.1.length := by omega
   have i6x14 : ¬ x4.1 = [] := List.ne_nil_of_length_pos i5x14
   have ex14_0_36 : partOf T.T 36 (encs c36 x4.1) 0 = some (.ssl (encs c42 x14) x14.length false) := by
     have e0 := part_elem0 (e := c36) (z := 1) (T := T.T) (ty := 36) T.t36 (by decide) (by decide) hx14 0 (by decide)
     (try simp only [Nat.mul_one, Nat.add_zero, Int.toNat_ofNat, Nat.zero_mul, Nat.zero_add] at e0)
     exact e0.trans rfl
   obtain ⟨x15, hx15, h⟩ := bnd h
   obtain ⟨i0x15, i1x15, i2x15, _⟩ := idx_ok hx15
   have i5x15 : 1 < x14.length := by omega
   have ex15_0_42 : partOf T.T 42 (encs c42 x14) 1 = some (.ssl (encs c4 x15) x15.length false) := by
     have e0 := part_elem0 (e := c42) (z := 1) (T := T.T) (ty := 42) T.t42 (by decide) (by decide) hx15 0 (by decide)
     (try simp only [Nat.mul_one, Nat.add_zero, Int.toNat_ofNat, Nat.zero_mul, Nat.zero_add] at e0)
     exact e0.trans rfl
   refine Stk.run 8 (fun t H n => t 2 = .ssl (encs c36 x4.1) x4.1.length false ∧ t 5 = .sc (.int .i64 x7.2) ∧ t 57 = .sc (.bool ((x15.length : Int) == 2))) (fun J hJ => ?_) ?_
   ·simp [-splice, f2, f5, f49, i0x14, i1x14, i5x14, i6x14, pd36, ex14_0_36, i0x15, i1x15, i5x15, pd42, pt42, ex15_0_42]
    exact hJ _ _ _ ⟨by simp [f2], by simp [f5], by simp [-splice, f2, f5, f49, i0x14, i1x14, i5x14, i6x14, pd36, ex14_0_36, i0x15, i1x15, i5x15, pd42, pt42, ex15_0_42]⟩
   clear f2 f5 f49
   rintro t H n ⟨f2, f5, f57⟩
   refine Stk.on ?_
   exact Stk.ln 0 (by decide) (hJ4 _ _ _ ⟨((x15.length : Int) == 2), h, f2, f5, f57⟩)
  ·rw [hb4] at f49
   replace h := cF hb4 h
   refine Stk.run 8 (fun t H n => t 2 = .ssl (encs c36 x4.1) x4.1.length false ∧ t 5 = .sc (.int .i64 x7.2) ∧ t 57 = .sc (.bool false)) (fun J hJ => ?_) ?_
   ·simp [-splice, f2, f5, f49]
    exact hJ _ _ _ ⟨by simp [f2], by simp [f5], by simp [-splice, f2, f5, f49]⟩
   clear f2 f5 f49
   rintro t H n ⟨f2, f5, f57⟩
   refine Stk.on ?_
   exact Stk.ln 0 (by decide) (hJ4 _ _ _ ⟨false, h, f2, f5, f57⟩)
 clear h f2 f5 f49
 rintro t H n ⟨v13, h, f2, f5, f57⟩
 subst hK4
 refine Stk.run 1 (fun t H n => t 2 = .ssl (encs c36 x4.1) x4.1.length false ∧ t 5 = .sc (.int .i64 x7.2) ∧ t 58 = .sc (.bool v13)) (fun J hJ => ?_) ?_
 ·simp [-splice, f2, f5, f57]
  exact hJ _ _ _ ⟨by simp [f2], by simp [f5], by simp [-splice, f2, f5, f57]⟩
 clear f2 f5 f57
 rintro t H n ⟨f2, f5, f58⟩
 obtain ⟨K5, hK5, h⟩ := jnd h
 refine Stk.jo 6 (fun t H n => ∃ v16 : Bool, K5 v16 = some r ∧ t 5 = .sc (.int .i64 x7.2) ∧ t 64 = .sc (.bool v16)) (fun J5 hJ5 => ?_) ?_
 ·rcases Bool.eq_false_or_eq_true v13 with hb5 | hb5
  ·rw [hb5] at f58
   replace h := cT hb5 h
   obtain ⟨x17, hx17, h⟩ := bnd h
   obtain ⟨i0x17, i1x17, i2x17, _⟩ := idx_ok hx17
   have i5x17 : 0 < x4.1.length := by omega
   have i6x17 : ¬ x4.1 = [] := List.ne_nil_of_length_pos i5x17
   have ex17_0_36 : partOf T.T 36 (encs c36 x4.1) 0 = some (.ssl (encs c42 x17) x17.length false) := by
     have e0 := part_elem0 (e := c36) (z := 1) (T := T.T) (ty := 36) T.t36 (by decide) (by decide) hx17 0 (by decide)
     (try simp only [Nat.mul_one, Nat.add_zero, Int.toNat_ofNat, Nat.zero_mul, Nat.zero_add] at e0)
     exact e0.trans rfl
   refine Stk.run 3 (fun t H n => t 5 = .sc (.int .i64 x7.2) ∧ t 58 = .sc (.bool true) ∧ t 61 = .ssl (encs c42 x17) x17.length false) (fun J hJ => ?_) ?_
   ·simp [-splice, f2, f5, f58, i0x17, i1x17, i5x17, i6x17, pd36, ex17_0_36]
    exact hJ _ _ _ ⟨by simp [f5], by simp [f58], by simp [-splice, f2, f5, f58, i0x17, i1x17, i5x17, i6x17, pd36, ex17_0_36]⟩
   clear f2 f5 f58
   rintro t H n ⟨f5, f58, f61⟩
   obtain ⟨x18, hx18, h⟩ := bnd h
   refine Stk.cv (g := 11) (args := [.ssl (encs c42 x17) x17.length false]) (args' := [.ssl (encs c42 x17) x17.length false]) (v := .sc (.int .i64 x18)) [] (ok_flow_Height F _ _ hx18) (by simp [f5, f58, f61]) rfl rfl (by simp [f5, f58, f61]) (.cons (.free (freeL_encs fr42 _)) (.nil)) (.inl ⟨rfl, rfl⟩) (fun t' ht' => ?_)
   refine Stk.gen (fun t H n => t 5 = .sc (.int .i64 x7.2) ∧ t 58 = .sc (.bool true) ∧ t 62 = .sc (.int .i64 x18)) ⟨by simp [ht', f5], by simp [ht', f58], by simp [ht']⟩ ?_
   clear f5 f58 f61 ht' t'
   rintro t H n ⟨f5, f58, f62⟩
   refine Stk.run 2 (fun t H n => t 5 = .sc (.int .i64 x7.2) ∧ t 64 = .sc (.bool (x18 == 2))) (fun J hJ => ?_) ?_
   ·simp [-splice, f5, f58, f62]
    exact hJ _ _ _ ⟨by simp [f5], by simp [-splice, f5, f58, f62]⟩
   clear f5 f58 f62
   rintro t H n ⟨f5, f64⟩
   refine Stk.on ?_
   exact Stk.ln 0 (by decide) (hJ5 _ _ _ ⟨(x18 == 2), h, f5, f64⟩)
  ·rw [hb5] at f58
   replace h := cF hb5 h
   refine Stk.run 6 (fun t H n => t 5 = .sc (.int .i64 x7.2) ∧ t 64 = .sc (.bool false)) (fun J hJ => ?_) ?_
   ·simp [-splice, f2, f5, f58]
    exact hJ _ _ _ ⟨by simp [f5], by simp [-splice, f2, f5, f58]⟩
   clear f2 f5 f58
   rintro t H n ⟨f5, f64⟩
   refine Stk.on ?_
   exact Stk.ln 0 (by decide) (hJ5 _ _ _ ⟨false, h, f5, f64⟩)
 clear h f2 f5 f58
 rintro t H n ⟨v16, h, f5, f64⟩
 subst hK5
 refine Stk.run 1 (fun t H n => t 5 = .sc (.int .i64 x7.2) ∧ t 65 = .sc (.bool v16)) (fun J hJ => ?_) ?_
 ·simp [-splice, f5, f64]
  exact hJ _ _ _ ⟨by simp [f5], by simp [-splice, f5, f64]⟩
 clear f5 f64
 rintro t H n ⟨f5, f65⟩
 refine Stk.jo 3 (fun t H n => t 68 = .sc (.bool (v16 && (x7.2 == 24)))) (fun J6 hJ6 => ?_) ?_
 ·rcases Bool.eq_false_or_eq_true v16 with hb6 | hb6
  ·rw [hb6] at f65
   refine Stk.run 3 (fun t H n => t 68 = .sc (.bool (x7.2 == 24))) (fun J hJ => ?_) ?_
   ·simp [-splice, f5, f65]
    exact hJ _ _ _ (by simp [-splice, f5, f65])
   clear f5 f65
   rintro t H n f68
   refine Stk.on ?_
   exact Stk.ln 0 (by decide) (hJ6 _ _ _ (f68.trans (congrArg (fun q => AV.sc (.bool q)) (by rw [hb6]; rfl))))
  ·rw [hb6] at f65
   refine Stk.run 3 (fun t H n => t 68 = .sc (.bool false)) (fun J hJ => ?_) ?_
   ·simp [-splice, f5, f65]
    exact hJ _ _ _ (by simp [-splice, f5, f65])
   clear f5 f65
   rintro t H n f68
   refine Stk.on ?_
   exact Stk.ln 0 (by decide) (hJ6 _ _ _ (f68.trans (congrArg (fun q => AV.sc (.bool q)) (by rw [hb6]; rfl))))
 clear f5 f65
 rintro t H n f68
 refine Stk.run 1 (fun t H n => t 0 = .sc (.bool (v16 && (x7.2 == 24)))) (fun J hJ => ?_) ?_
 ·simp [-splice, f68]
  exact hJ _ _ _ (by simp [-splice, f68])
 clear f68
 rintro t H n f0
 refine Stk.on ?_
 refine Stk.rt ?_
 have hq := Option.some.inj h; subst hq
 exact (hr _ _ _ (.sc (.bool (v16 && (x7.2 == 24)))) ([]) (by simp [f0]) (.inr (.inr (.free (rfl))))).1
theorem ok_R21_Bools (F : Nat) (a0 : (List Bool)) (a1 : (List Bool)) (r : Bool) (h : R21_Bools F a0 a1 = some r) : RunF Try.prog T.T 20 [.ssl (encs c4 a0) a0.length false, .ssl (encs c4 a1) a1.length false] (.sc (.bool r)) := by
 rw [R21_Bools] at h
 refine RunF.z Try.func20 rfl rfl rfl rfl rfl (fun C hr => ?_)
 refine Stk.gen (fun t H n => t 0 = .ssl (encs c4 a0) a0.length false ∧ t 1 = .ssl (encs c4 a1) a1.length false) ⟨by simp, by simp⟩ ?_
 rintro t H n ⟨f0, f1⟩
 refine Stk.sq ?_
 refine Stk.rg ?_
 refine Stk.run 1 (fun t H n => t 0 = .ssl (encs c4 a0) a0.length false ∧ t 1 = .ssl (encs c4 a1) a1.length false) (fun J hJ => ?_) ?_
 ·simp [-splice, f0, f1]
  exact hJ _ _ _ ⟨by simp [f0], by simp [f1]⟩
 clear f0 f1
 rintro t H n ⟨f0, f1⟩
 refine Stk.on ?_
 refine Stk.sq ?_
 refine Stk.sq ?_
 refine Stk.rg ?_
 refine Stk.run 5 (fun t H n => t 0 = .ssl (encs c4 a0) a0.length false ∧ t 1 = .ssl (encs c4 a1) a1.length false ∧ t 10 = .sc (.bool ((a0.length : Int) != (a1.length : Int)))) (fun J hJ => ?_) ?_
 ·simp [-splice, f0, f1]
  exact hJ _ _ _ ⟨by simp [f0], by simp [f1], by simp [-splice, f0, f1]⟩
 clear f0 f1
 rintro t H n ⟨f0, f1, f10⟩
 refine Stk.on ?_
 refine Stk.cond ((a0.length : Int) != (a1.length : Int)) (by exact f10) (fun hb1 => ?_) (fun hb1 => ?_)
 ·have h := cT hb1 h
  refine Stk.sq ?_
  refine Stk.rg ?_
  refine Stk.run 1 (fun t H n => t 4 = .sc (.bool false)) (fun J hJ => ?_) ?_
  ·simp [-splice, f0, f1, f10]
   exact hJ _ _ _ (by simp [-splice, f0, f1, f10])
  clear f0 f1 f10
  rintro t H n f4
  refine Stk.on ?_
  refine Stk.rt ?_
  have hq := Option.some.inj h; subst hq
  exact (hr _ _ _ (.sc (.bool false)) ([]) (by simp [f4]) (.inr (.inr (.free (rfl))))).1
 ·have h := cF hb1 h
  refine Stk.sk ?_
  refine Stk.sq ?_
  refine Stk.sq ?_
  refine Stk.rg ?_
  refine Stk.run 1 (fun t H n => t 0 = .ssl (encs c4 a0) a0.length false ∧ t 1 = .ssl (encs c4 a1) a1.length false ∧ t 5 = .sc (.int .i64 0)) (fun J hJ => ?_) ?_
  ·simp [-splice, f0, f1, f10]
   exact hJ _ _ _ ⟨by simp [f0], by simp [f1], by simp [-splice, f0, f1, f10]⟩
  clear f0 f1 f10
  rintro t H n ⟨f0, f1, f5⟩
  refine Stk.on ?_
  refine Stk.bk ?_
  refine Stk.lo (fun μ t H n => ∃ v2 : Int, R21_Bools_L0 F a0 a1 μ v2 = some r ∧ t 0 = .ssl (encs c4 a0) a0.length false ∧ t 1 = .ssl (encs c4 a1) a1.length false ∧ t 5 = .sc (.int .i64 v2)) F ⟨0, h, f0, f1, f5⟩ ?_
  clear h f0 f1 f5
  rintro J1 hJ1 μ t H n ⟨v2, h, f0, f1, f5⟩
  cases μ with
  | zero => exact absurd h (by simp [R21_Bools_L0])
  | succ μ =>
  rw [R21_Bools_L0] at h
  refine Stk.sq ?_
  refine Stk.sq ?_
  refine Stk.rg ?_
  refine Stk.run 4 (fun t H n => t 0 = .ssl (encs c4 a0) a0.length false ∧ t 1 = .ssl (encs c4 a1) a1.length false ∧ t 5 = .sc (.int .i64 v2) ∧ t 14 = .sc (.bool (decide (v2 < (a0.length : Int))))) (fun J hJ => ?_) ?_
  ·simp [-splice, f0, f1, f5]
   exact hJ _ _ _ ⟨by simp [f0], by simp [f1], by simp [f5], by simp [-splice, f0, f1, f5]⟩
  clear f0 f1 f5
  rintro t H n ⟨f0, f1, f5, f14⟩
  refine Stk.on ?_
  refine Stk.cond (decide (v2 < (a0.length : Int))) (by exact f14) (fun hb4 => ?_) (fun hb4 => ?_)
  ·have h := cT hb4 h
   refine Stk.sk ?_
   refine Stk.sq ?_
   refine Stk.bk ?_
   refine Stk.sq ?_
   obtain ⟨n0, hn0⟩ : ∃ m, m = n := ⟨n, rfl⟩
   have ln0 : n0 ≤ n := Nat.le_of_eq hn0
   refine Stk.rgD [.rd [], .rd [], .rd [], .rd [], .rd [], .rd [], .rd [], .rd [], .rd []] none (by kernel_rfl) (by rfl) rfl (by simp [below]) rfl ?_
   obtain ⟨x5, hx5, h⟩ := bnd h
   obtain ⟨i0x5, i1x5, i2x5, _⟩ := idx_ok hx5
   have ex5_0_4 : partOf T.T 4 (encs c4 a0) (v2.toNat) = some (.sc (.bool x5)) := by
     have e0 := part_elem0 (e := c4) (z := 1) (T := T.T) (ty := 4) T.t4 (by decide) (by decide) hx5 0 (by decide)
     (try simp only [Nat.mul_one, Nat.add_zero] at e0)
     exact e0.trans rfl
   obtain ⟨x6, hx6, h⟩ := bnd h
   obtain ⟨i0x6, i1x6, i2x6, _⟩ := idx_ok hx6
   have ex6_0_4 : partOf T.T 4 (encs c4 a1) (v2.toNat) = some (.sc (.bool x6)) := by
     have e0 := part_elem0 (e := c4) (z := 1) (T := T.T) (ty := 4) T.t4 (by decide) (by decide) hx6 0 (by decide)
     (try simp only [Nat.mul_one, Nat.add_zero] at e0)
     exact e0.trans rfl
   refine Stk.runD 9 (fun t H n => t 0 = .ssl (encs c4 a0) a0.length false ∧ t 1 = .ssl (encs c4 a1) a1.length false ∧ t 5 = .sc (.int .i64 v2) ∧ t 25 = .sc (.bool (!(x5 == x6))) ∧ n0 ≤ n) (fun J hJ => ?_) ?_
   ·simp [-splice, f0, f1, f5, f14, i0x5, i1x5, pd4, ex5_0_4, i0x6, i1x6, ex6_0_4, eqM4]
    exact hJ _ _ _ ⟨by simp [f0], by simp [f1], by simp [f5], by simp [-splice, f0, f1, f5, f14, i0x5, i1x5, pd4, ex5_0_4, i0x6, i1x6, ex6_0_4, eqM4], ln0⟩
   clear f0 f1 f5 f14 ln0
   rintro t H n ⟨f0, f1, f5, f25, ln0⟩
   refine Stk.onD ?_
   refine Stk.cond (!(x5 == x6)) (by exact f25) (fun hb7 => ?_) (fun hb7 => ?_)
   ·have h := cT hb7 h
    refine Stk.sq ?_
    refine Stk.rg ?_
    refine Stk.run 1 (fun t H n => t 4 = .sc (.bool false)) (fun J hJ => ?_) ?_
    ·simp [-splice, f0, f1, f5, f25]
     exact hJ _ _ _ (by simp [-splice, f0, f1, f5, f25])
    clear f0 f1 f5 f25 ln0
    rintro t H n f4
    refine Stk.on ?_
    refine Stk.rt ?_
    have hq := Option.some.inj h; subst hq
    exact (hr _ _ _ (.sc (.bool false)) ([]) (by simp [f4]) (.inr (.inr (.free (rfl))))).1
   ·have h := cF hb7 h
    refine Stk.sk ?_
    refine Stk.bn ?_
    refine Stk.rg ?_
    refine Stk.run 3 (fun t H n => t 0 = .ssl (encs c4 a0) a0.length false ∧ t 1 = .ssl (encs c4 a1) a1.length false ∧ t 5 = .sc (.int .i64 (IntKind.i64.wrap (v2 + 1)))) (fun J hJ => ?_) ?_
    ·simp [-splice, f0, f1, f5, f25]
     exact hJ _ _ _ ⟨by simp [f0], by simp [f1], by simp [-splice, f0, f1, f5, f25]⟩
    clear f0 f1 f5 f25 ln0
    rintro t H n ⟨f0, f1, f5⟩
    refine Stk.on ?_
    exact Stk.ln μ (Nat.lt_succ_self _) (hJ1 _ _ _ _ ⟨(IntKind.i64.wrap (v2 + 1)), h, f0, f1, f5⟩)
  ·have h := cF hb4 h
   refine Stk.ex rfl ?_
   refine Stk.sq ?_
   refine Stk.rg ?_
   refine Stk.run 1 (fun t H n => t 4 = .sc (.bool true)) (fun J hJ => ?_) ?_
   ·simp [-splice, f0, f1, f5, f14]
    exact hJ _ _ _ (by simp [-splice, f0, f1, f5, f14])
   clear f0 f1 f5 f14
   rintro t H n f4
   refine Stk.on ?_
   refine Stk.rt ?_
   have hq := Option.some.inj h; subst hq
   exact (hr _ _ _ (.sc (.bool true)) ([]) (by simp [f4]) (.inr (.inr (.free (rfl))))).1
theorem ok_R21_Same (F : Nat) (a0 : (List (List (List Bool)))) (a1 : (List (List (List Bool)))) (r : Bool) (h : R21_Same F a0 a1 = some r) : RunF Try.prog T.T 10 [.ssl (encs c36 a0) a0.length false, .ssl (encs c36 a1) a1.length false] (.sc (.bool r)) := by
 rw [R21_Same] at h
 refine RunF.z Try.func10 rfl rfl rfl rfl rfl (fun C hr => ?_)
 refine Stk.gen (fun t H n => t 0 = .ssl (encs c36 a0) a0.length false ∧ t 1 = .ssl (encs c36 a1) a1.length false) ⟨by simp, by simp⟩ ?_
 rintro t H n ⟨f0, f1⟩
 refine Stk.sq ?_
 refine Stk.rg ?_
 refine Stk.run 1 (fun t H n => t 0 = .ssl (encs c36 a0) a0.length false ∧ t 1 = .ssl (encs c36 a1) a1.length false) (fun J hJ => ?_) ?_
 ·simp [-splice, f0, f1]
  exact hJ _ _ _ ⟨by simp [f0], by simp [f1]⟩
 clear f0 f1
 rintro t H n ⟨f0, f1⟩
 refine Stk.on ?_
 refine Stk.sq ?_
 refine Stk.sq ?_
 refine Stk.rg ?_
 refine Stk.run 5 (fun t H n => t 0 = .ssl (encs c36 a0) a0.length false ∧ t 1 = .ssl (encs c36 a1) a1.length false ∧ t 11 = .sc (.bool ((a0.length : Int) != (a1.length : Int)))) (fun J hJ => ?_) ?_
 ·simp [-splice, f0, f1]
  exact hJ _ _ _ ⟨by simp [f0], by simp [f1], by simp [-splice, f0, f1]⟩
 clear f0 f1
 rintro t H n ⟨f0, f1, f11⟩
 refine Stk.on ?_
 refine Stk.cond ((a0.length : Int) != (a1.length : Int)) (by exact f11) (fun hb1 => ?_) (fun hb1 => ?_)
 ·have h := cT hb1 h
  refine Stk.sq ?_
  refine Stk.rg ?_
  refine Stk.run 1 (fun t H n => t 4 = .sc (.bool false)) (fun J hJ => ?_) ?_
  ·simp [-splice, f0, f1, f11]
   exact hJ _ _ _ (by simp [-splice, f0, f1, f11])
  clear f0 f1 f11
  rintro t H n f4
  refine Stk.on ?_
  refine Stk.rt ?_
  have hq := Option.some.inj h; subst hq
  exact (hr _ _ _ (.sc (.bool false)) ([]) (by simp [f4]) (.inr (.inr (.free (rfl))))).1
 ·have h := cF hb1 h
  refine Stk.sk ?_
  refine Stk.sq ?_
  refine Stk.sq ?_
  refine Stk.rg ?_
  refine Stk.run 1 (fun t H n => t 0 = .ssl (encs c36 a0) a0.length false ∧ t 1 = .ssl (encs c36 a1) a1.length false ∧ t 5 = .sc (.int .i64 0)) (fun J hJ => ?_) ?_
  ·simp [-splice, f0, f1, f11]
   exact hJ _ _ _ ⟨by simp [f0], by simp [f1], by simp [-splice, f0, f1, f11]⟩
  clear f0 f1 f11
  rintro t H n ⟨f0, f1, f5⟩
  refine Stk.on ?_
  refine Stk.bk ?_
  refine Stk.lo (fun μ t H n => ∃ v2 : Int, R21_Same_L0 F a0 a1 μ v2 = some r ∧ t 0 = .ssl (encs c36 a0) a0.length false ∧ t 1 = .ssl (encs c36 a1) a1.length false ∧ t 5 = .sc (.int .i64 v2)) F ⟨0, h, f0, f1, f5⟩ ?_
  clear h f0 f1 f5
  rintro J1 hJ1 μ t H n ⟨v2, h, f0, f1, f5⟩
  cases μ with
  | zero => exact absurd h (by simp [R21_Same_L0])
  | succ μ =>
  rw [R21_Same_L0] at h
  refine Stk.sq ?_
  refine Stk.sq ?_
  refine Stk.rg ?_
  refine Stk.run 4 (fun t H n => t 0 = .ssl (encs c36 a0) a0.length false ∧ t 1 = .ssl (encs c36 a1) a1.length false ∧ t 5 = .sc (.int .i64 v2) ∧ t 15 = .sc (.bool (decide (v2 < (a0.length : Int))))) (fun J hJ => ?_) ?_
  ·simp [-splice, f0, f1, f5]
   exact hJ _ _ _ ⟨by simp [f0], by simp [f1], by simp [f5], by simp [-splice, f0, f1, f5]⟩
  clear f0 f1 f5
  rintro t H n ⟨f0, f1, f5, f15⟩
  refine Stk.on ?_
  refine Stk.cond (decide (v2 < (a0.length : Int))) (by exact f15) (fun hb4 => ?_) (fun hb4 => ?_)
  ·have h := cT hb4 h
   refine Stk.sk ?_
   refine Stk.sq ?_
   refine Stk.bk ?_
   refine Stk.sq ?_
   refine Stk.sq ?_
   obtain ⟨n0, hn0⟩ : ∃ m, m = n := ⟨n, rfl⟩
   have ln0 : n0 ≤ n := Nat.le_of_eq hn0
   refine Stk.rgD [.rd [], .rd [], .rd [], .rd [], .rd [], .rd [], .rd [], .rd [], .rd [], .rd [], .rd []] none (by kernel_rfl) (by rfl) rfl (by simp [below]) rfl ?_
   obtain ⟨x5, hx5, h⟩ := bnd h
   obtain ⟨i0x5, i1x5, i2x5, _⟩ := idx_ok hx5
   have ex5_0_36 : partOf T.T 36 (encs c36 a0) (v2.toNat) = some (.ssl (encs c42 x5) x5.length false) := by
     have e0 := part_elem0 (e := c36) (z := 1) (T := T.T) (ty := 36) T.t36 (by decide) (by decide) hx5 0 (by decide)
     (try simp only [Nat.mul_one, Nat.add_zero] at e0)
     exact e0.trans rfl
   obtain ⟨x6, hx6, h⟩ := bnd h
   obtain ⟨i0x6, i1x6, i2x6, _⟩ := idx_ok hx6
   have ex6_0_36 : partOf T.T 36 (encs c36 a1) (v2.toNat) = some (.ssl (encs c42 x6) x6.length false) := by
     have e0 := part_elem0 (e := c36) (z := 1) (T := T.T) (ty := 36) T.t36 (by decide) (by decide) hx6 0 (by decide)
     (try simp only [Nat.mul_one, Nat.add_zero] at e0)
     exact e0.trans rfl
   refine Stk.runD 11 (fun t H n => t 0 = .ssl (encs c36 a0) a0.length false ∧ t 1 = .ssl (encs c36 a1) a1.length false ∧ t 5 = .sc (.int .i64 v2) ∧ t 28 = .sc (.bool ((x5.length : Int) != (x6.length : Int))) ∧ n0 ≤ n) (fun J hJ => ?_) ?_
   ·simp [-splice, f0, f1, f5, f15, i0x5, i1x5, pd36, ex5_0_36, i0x6, i1x6, ex6_0_36]
    exact hJ _ _ _ ⟨by simp [f0], by simp [f1], by simp [f5], by simp [-splice, f0, f1, f5, f15, i0x5, i1x5, pd36, ex5_0_36, i0x6, i1x6, ex6_0_36], ln0⟩
   clear f0 f1 f5 f15 ln0
   rintro t H n ⟨f0, f1, f5, f28, ln0⟩
   refine Stk.onD ?_
   refine Stk.cond ((x5.length : Int) != (x6.length : Int)) (by exact f28) (fun hb7 => ?_) (fun hb7 => ?_)
   ·have h := cT hb7 h
    refine Stk.sq ?_
    refine Stk.rg ?_
    refine Stk.run 1 (fun t H n => t 4 = .sc (.bool false)) (fun J hJ => ?_) ?_
    ·simp [-splice, f0, f1, f5, f28]
     exact hJ _ _ _ (by simp [-splice, f0, f1, f5, f28])
    clear f0 f1 f5 f28 ln0
    rintro t H n f4
    refine Stk.on ?_
    refine Stk.rt ?_
    have hq := Option.some.inj h; subst hq
    exact (hr _ _ _ (.sc (.bool false)) ([]) (by simp [f4]) (.inr (.inr (.free (rfl))))).1
   ·have h := cF hb7 h
    refine Stk.sk ?_
    refine Stk.sq ?_
    refine Stk.rg ?_
    refine Stk.run 1 (fun t H n => t 0 = .ssl (encs c36 a0) a0.length false ∧ t 1 = .ssl (encs c36 a1) a1.length false ∧ t 5 = .sc (.int .i64 v2) ∧ t 6 = .sc (.int .i64 0)) (fun J hJ => ?_) ?_
    ·simp [-splice, f0, f1, f5, f28]
     exact hJ _ _ _ ⟨by simp [f0], by simp [f1], by simp [f5], by simp [-splice, f0, f1, f5, f28]⟩
    clear f0 f1 f5 f28 ln0
    rintro t H n ⟨f0, f1, f5, f6⟩
    refine Stk.on ?_
    obtain ⟨K2, hK2, h⟩ := jnd h
    refine Stk.jn (fun t H n => K2 () = some r ∧ t 0 = .ssl (encs c36 a0) a0.length false ∧ t 1 = .ssl (encs c36 a1) a1.length false ∧ t 5 = .sc (.int .i64 v2)) trivial (fun J2 hJ2 => ?_) ?_
    ·skip
     refine Stk.bk ?_
     refine Stk.lo (fun μ t H n => ∃ v8 : Int, R21_Same_L1 F a0 a1 v2 K2 μ v8 = some r ∧ t 0 = .ssl (encs c36 a0) a0.length false ∧ t 1 = .ssl (encs c36 a1) a1.length false ∧ t 5 = .sc (.int .i64 v2) ∧ t 6 = .sc (.int .i64 v8)) F ⟨0, h, f0, f1, f5, f6⟩ ?_
     clear h f0 f1 f5 f6
     rintro J3 hJ3 μ t H n ⟨v8, h, f0, f1, f5, f6⟩
     cases μ with
     | zero => exact absurd h (by simp [R21_Same_L1])
     | succ μ =>
     rw [R21_Same_L1] at h
     refine Stk.sq ?_
     refine Stk.sq ?_
     refine Stk.rg ?_
     obtain ⟨x10, hx10, h⟩ := bnd h
     obtain ⟨i0x10, i1x10, i2x10, _⟩ := idx_ok hx10
     have ex10_0_36 : partOf T.T 36 (encs c36 a0) (v2.toNat) = some (.ssl (encs c42 x10) x10.length false) := by
       have e0 := part_elem0 (e := c36) (z := 1) (T := T.T) (ty := 36) T.t36 (by decide) (by decide) hx10 0 (by decide)
       (try simp only [Nat.mul_one, Nat.add_zero] at e0)
       exact e0.trans rfl
     refine Stk.run 7 (fun t H n => t 0 = .ssl (encs c36 a0) a0.length false ∧ t 1 = .ssl (encs c36 a1) a1.length false ∧ t 5 = .sc (.int .i64 v2) ∧ t 6 = .sc (.int .i64 v8) ∧ t 35 = .sc (.bool (decide (v8 < (x10.length : Int))))) (fun J hJ => ?_) ?_
     ·simp [-splice, f0, f1, f5, f6, i0x10, i1x10, pd36, ex10_0_36]
      exact hJ _ _ _ ⟨by simp [f0], by simp [f1], by simp [f5], by simp [f6], by simp [-splice, f0, f1, f5, f6, i0x10, i1x10, pd36, ex10_0_36]⟩
     clear f0 f1 f5 f6
     rintro t H n ⟨f0, f1, f5, f6, f35⟩
     refine Stk.on ?_
     refine Stk.cond (decide (v8 < (x10.length : Int))) (by exact f35) (fun hb11 => ?_) (fun hb11 => ?_)
     ·have h := cT hb11 h
      refine Stk.sk ?_
      refine Stk.sq ?_
      refine Stk.bk ?_
      refine Stk.sq ?_
      obtain ⟨n0, hn0⟩ : ∃ m, m = n := ⟨n, rfl⟩
      have ln0 : n0 ≤ n := Nat.le_of_eq hn0
      refine Stk.rgD [.rd [], .rd [], .rd [], .rd [], .rd [], .rd [], .rd [], .rd [], .rd [], .rd [], .rd [], .rd [], .rd [], .rd [], .rd [], .rd []] none (by kernel_rfl) (by rfl) rfl (by simp [below]) rfl ?_
      obtain ⟨x12, hx12, h⟩ := bnd h
      obtain ⟨i0x12, i1x12, i2x12, _⟩ := idx_ok hx12
      have ex12_0_36 : partOf T.T 36 (encs c36 a0) (v2.toNat) = some (.ssl (encs c42 x12) x12.length false) := by
        have e0 := part_elem0 (e := c36) (z := 1) (T := T.T) (ty := 36) T.t36 (by decide) (by decide) hx12 0 (by decide)
        (try simp only [Nat.mul_one, Nat.add_zero] at e0)
        exact e0.trans rfl
      obtain ⟨x13, hx13, h⟩ := bnd h
      obtain ⟨i0x13, i1x13, i2x13, _⟩ := idx_ok hx13
      have ex13_0_42 : partOf T.T 42 (encs c42 x12) (v8.toNat) = some (.ssl (encs c4 x13) x13.length false) := by
        have e0 := part_elem0 (e := c42) (z := 1) (T := T.T) (ty := 42) T.t42 (by decide) (by decide) hx13 0 (by decide)
        (try simp only [Nat.mul_one, Nat.add_zero] at e0)
        exact e0.trans rfl
      obtain ⟨x14, hx14, h⟩ := bnd h
      obtain ⟨i0x14, i1x14, i2x14, _⟩ := idx_ok hx14
      have ex14_0_36 : partOf T.T 36 (encs c36 a1) (v2.toNat) = some (.ssl (encs c42 x14) x14.length false) := by
        have e0 := part_elem0 (e := c36) (z := 1) (T := T.T) (ty := 36) T.t36 (by decide) (by decide) hx14 0 (by decide)
        (try simp only [Nat.mul_one, Nat.add_zero] at e0)
        exact e0.trans rfl
      obtain ⟨x15, hx15, h⟩ := bnd h
      obtain ⟨i0x15, i1x15, i2x15, _⟩ := idx_ok hx15
      have ex15_0_42 : partOf T.T 42 (encs c42 x14) (v8.toNat) = some (.ssl (encs c4 x15) x15.length false) := by
        have e0 := part_elem0 (e := c42) (z := 1) (T := T.T) (ty := 42) T.t42 (by decide) (by decide) hx15 0 (by decide)
        (try simp only [Nat.mul_one, Nat.add_zero] at e0)
        exact e0.trans rfl
      refine Stk.runD 14 (fun t H n => t 0 = .ssl (encs c36 a0) a0.length false ∧ t 1 = .ssl (encs c36 a1) a1.length false ∧ t 5 = .sc (.int .i64 v2) ∧ t 6 = .sc (.int .i64 v8) ∧ t 44 = .ssl (encs c4 x13) x13.length false ∧ t 51 = .ssl (encs c4 x15) x15.length false ∧ n0 ≤ n) (fun J hJ => ?_) ?_
      ·simp [-splice, f0, f1, f5, f6, f35, i0x12, i1x12, pd36, ex12_0_36, i0x13, i1x13, pd42, ex13_0_42, i0x14, i1x14, ex14_0_36, i0x15, i1x15, ex15_0_42]
       exact hJ _ _ _ ⟨by simp [f0], by simp [f1], by simp [f5], by simp [f6], by simp [-splice, f0, f1, f5, f6, f35, i0x12, i1x12, pd36, ex12_0_36, i0x13, i1x13, pd42, ex13_0_42, i0x14, i1x14, ex14_0_36, i0x15, i1x15, ex15_0_42], by simp [-splice, f0, f1, f5, f6, f35, i0x12, i1x12, pd36, ex12_0_36, i0x13, i1x13, pd42, ex13_0_42, i0x14, i1x14, ex14_0_36, i0x15, i1x15, ex15_0_42], ln0⟩
      clear f0 f1 f5 f6 f35 ln0
      rintro t H n ⟨f0, f1, f5, f6, f44, f51, ln0⟩
      obtain ⟨x16, hx16, h⟩ := bnd h
      refine Stk.cvD (g := 20) (args := [.ssl (encs c4 x13) x13.length false, .ssl (encs c4 x15) x15.length false]) (args' := [.ssl (encs c4 x13) x13.length false, .ssl (encs c4 x15) x15.length false]) (v := .sc (.bool x16)) [] (ok_R21_Bools F _ _ _ hx16) rfl (by simp) rfl (by simp [f0, f1, f5, f6, f44, f51]) rfl rfl (by simp [f0, f1, f5, f6, f44, f51]) (.cons (.free (freeL_encs fr4 _)) (.cons (.free (freeL_encs fr4 _)) (.nil))) (.inl ⟨rfl, rfl⟩) (fun t' ht' => ?_)
      refine Stk.gen (fun t H n => t 0 = .ssl (encs c36 a0) a0.length false ∧ t 1 = .ssl (encs c36 a1) a1.length false ∧ t 5 = .sc (.int .i64 v2) ∧ t 6 = .sc (.int .i64 v8) ∧ t 52 = .sc (.bool x16) ∧ n0 ≤ n) ⟨by simp [ht', f0], by simp [ht', f1], by simp [ht', f5], by simp [ht', f6], by simp [ht'], ln0⟩ ?_
      clear f0 f1 f5 f6 f44 f51 ln0 ht' t'
      rintro t H n ⟨f0, f1, f5, f6, f52, ln0⟩
      refine Stk.runD 1 (fun t H n => t 0 = .ssl (encs c36 a0) a0.length false ∧ t 1 = .ssl (encs c36 a1) a1.length false ∧ t 5 = .sc (.int .i64 v2) ∧ t 6 = .sc (.int .i64 v8) ∧ t 53 = .sc (.bool (!x16)) ∧ n0 ≤ n) (fun J hJ => ?_) ?_
      ·simp [-splice, f0, f1, f5, f6, f52]
       exact hJ _ _ _ ⟨by simp [f0], by simp [f1], by simp [f5], by simp [f6], by simp [-splice, f0, f1, f5, f6, f52], ln0⟩
      clear f0 f1 f5 f6 f52 ln0
      rintro t H n ⟨f0, f1, f5, f6, f53, ln0⟩
      refine Stk.onD ?_
      refine Stk.cond (!x16) (by exact f53) (fun hb17 => ?_) (fun hb17 => ?_)
      ·have h := cT hb17 h
       refine Stk.sq ?_
       refine Stk.rg ?_
       refine Stk.run 1 (fun t H n => t 4 = .sc (.bool false)) (fun J hJ => ?_) ?_
       ·simp [-splice, f0, f1, f5, f6, f53]
        exact hJ _ _ _ (by simp [-splice, f0, f1, f5, f6, f53])
       clear f0 f1 f5 f6 f53 ln0
       rintro t H n f4
       refine Stk.on ?_
       refine Stk.rt ?_
       have hq := Option.some.inj h; subst hq
       exact (hr _ _ _ (.sc (.bool false)) ([]) (by simp [f4]) (.inr (.inr (.free (rfl))))).1
      ·have h := cF hb17 h
       refine Stk.sk ?_
       refine Stk.bn ?_
       refine Stk.rg ?_
       refine Stk.run 3 (fun t H n => t 0 = .ssl (encs c36 a0) a0.length false ∧ t 1 = .ssl (encs c36 a1) a1.length false ∧ t 5 = .sc (.int .i64 v2) ∧ t 6 = .sc (.int .i64 (IntKind.i64.wrap (v8 + 1)))) (fun J hJ => ?_) ?_
       ·simp [-splice, f0, f1, f5, f6, f53]
        exact hJ _ _ _ ⟨by simp [f0], by simp [f1], by simp [f5], by simp [-splice, f0, f1, f5, f6, f53]⟩
       clear f0 f1 f5 f6 f53 ln0
       rintro t H n ⟨f0, f1, f5, f6⟩
       refine Stk.on ?_
       exact Stk.ln μ (Nat.lt_succ_self _) (hJ3 _ _ _ _ ⟨(IntKind.i64.wrap (v8 + 1)), h, f0, f1, f5, f6⟩)
     ·have h := cF hb11 h
      refine Stk.ex rfl ?_
      exact Stk.ln 0 (by decide) (hJ2 _ _ _ ⟨h, f0, f1, f5⟩)
    clear h f0 f1 f5 f6
    rintro t H n ⟨h, f0, f1, f5⟩
    subst hK2
    refine Stk.bn ?_
    refine Stk.rg ?_
    refine Stk.run 3 (fun t H n => t 0 = .ssl (encs c36 a0) a0.length false ∧ t 1 = .ssl (encs c36 a1) a1.length false ∧ t 5 = .sc (.int .i64 (IntKind.i64.wrap (v2 + 1)))) (fun J hJ => ?_) ?_
    ·simp [-splice, f0, f1, f5]
     exact hJ _ _ _ ⟨by simp [f0], by simp [f1], by simp [-splice, f0, f1, f5]⟩
    clear f0 f1 f5
    rintro t H n ⟨f0, f1, f5⟩
    refine Stk.on ?_
    exact Stk.ln μ (Nat.lt_succ_self _) (hJ1 _ _ _ _ ⟨(IntKind.i64.wrap (v2 + 1)), h, f0, f1, f5⟩)
  ·have h := cF hb4 h
   refine Stk.ex rfl ?_
   refine Stk.sq ?_
   refine Stk.rg ?_
   refine Stk.run 1 (fun t H n => t 4 = .sc (.bool true)) (fun J hJ => ?_) ?_
   ·simp [-splice, f0, f1, f5, f15]
    exact hJ _ _ _ (by simp [-splice, f0, f1, f5, f15])
   clear f0 f1 f5 f15
   rintro t H n f4
   refine Stk.on ?_
   refine Stk.rt ?_
   have hq := Option.some.inj h; subst hq
   exact (hr _ _ _ (.sc (.bool true)) ([]) (by simp [f4]) (.inr (.inr (.free (rfl))))).1
theorem ok_L21_FlowApart (F : Nat) (a0 : api_Code) (a1 : Int) (r : Bool) (h : L21_FlowApart F a0 a1 = some r) : RunF Try.prog T.T 5 [.agg (c26 a0), .sc (.int .u8 a1)] (.sc (.bool r)) := by
 rw [L21_FlowApart] at h
 refine RunF.z Try.func5 rfl rfl rfl rfl rfl (fun C hr => ?_)
 refine Stk.gen (fun t H n => t 0 = .agg (c26 a0) ∧ t 1 = .sc (.int .u8 a1)) ⟨by simp, by simp⟩ ?_
 rintro t H n ⟨f0, f1⟩
 refine Stk.sq ?_
 refine Stk.rg ?_
 refine Stk.om (mop_box T.t26 (cs := c26 a0) (by show partOk (t 0) = true; rw [f0]; rfl) (by show cellsOf (t 0) = _; rw [f0]; rfl)) (by simp [f0, f1]) rfl (fun t' ht' => ?_)
 refine Stk.gen (fun t H n => ∃ b1, t 1 = .sc (.int .u8 a1) ∧ t 2 = .own b1 0 ∧ H b1 = some (.cells (c26 a0) 26) ∧ b1 < n) ⟨n, by simp [ht', f1], by simp [ht'], upd_same _ _ _, Nat.lt_succ_self _⟩ ?_
 clear f0 f1 ht' t'
 rintro t H n ⟨b1, f1, f2, b_b1, l_b1⟩
 refine Stk.run 1 (fun t H n => t 1 = .sc (.int .u8 a1) ∧ t 2 = .own b1 0 ∧ H b1 = some (.cells (c26 a0) 26) ∧ b1 < n) (fun J hJ => ?_) ?_
 ·simp [-splice, f1, f2, b_b1]
  exact hJ _ _ _ ⟨by simp [f1], by simp [f2], b_b1, l_b1⟩
 clear f1 f2 b_b1 l_b1
 rintro t H n ⟨f1, f2, b_b1, l_b1⟩
 refine Stk.on ?_
 refine Stk.sq ?_
 refine Stk.sq ?_
 refine Stk.rg ?_
 refine Stk.run 1 (fun t H n => t 1 = .sc (.int .u8 a1) ∧ t 2 = .own b1 0 ∧ t 11 = .agg (c26 a0) ∧ H b1 = some (.cells (c26 a0) 26) ∧ b1 < n) (fun J hJ => ?_) ?_
 ·simp [-splice, f1, f2, b_b1, ld_26_0_26]
  exact hJ _ _ _ ⟨by simp [f1], by simp [f2], by simp [-splice, f1, f2, b_b1, ld_26_0_26], b_b1, l_b1⟩
 clear f1 f2 b_b1 l_b1
 rintro t H n ⟨f1, f2, f11, b_b1, l_b1⟩
 obtain ⟨x2, hx2, h⟩ := bnd h
 refine Stk.cv (g := 6) (args := [.agg (c26 a0), .sc (.int .i64 2000)]) (args' := [.agg (c26 a0), .sc (.int .i64 2000)]) (v := .sc (.bool x2)) [] (ok_R20_Light F _ _ _ hx2) (by simp [f1, f2, f11]) rfl rfl (by simp [f1, f2, f11]) (.cons (.free (fr26 _)) (.cons (.free (rfl)) (.nil))) (.inl ⟨rfl, rfl⟩) (fun t' ht' => ?_)
 refine Stk.gen (fun t H n => t 1 = .sc (.int .u8 a1) ∧ t 2 = .own b1 0 ∧ t 12 = .sc (.bool x2) ∧ H b1 = some (.cells (c26 a0) 26) ∧ b1 < n) ⟨by simp [ht', f1], by simp [ht', f2], by simp [ht'], b_b1, l_b1⟩ ?_
 clear f1 f2 f11 b_b1 l_b1 ht' t'
 rintro t H n ⟨f1, f2, f12, b_b1, l_b1⟩
 refine Stk.run 2 (fun t H n => t 1 = .sc (.int .u8 a1) ∧ t 2 = .own b1 0 ∧ t 14 = .sc (.bool (!x2)) ∧ H b1 = some (.cells (c26 a0) 26) ∧ b1 < n) (fun J hJ => ?_) ?_
 ·simp [-splice, f1, f2, f12, b_b1]
  exact hJ _ _ _ ⟨by simp [f1], by simp [f2], by simp [-splice, f1, f2, f12, b_b1], b_b1, l_b1⟩
 clear f1 f2 f12 b_b1 l_b1
 rintro t H n ⟨f1, f2, f14, b_b1, l_b1⟩
 refine Stk.jo 5 (fun t H n => t 1 = .sc (.int .u8 a1) ∧ t 2 = .own b1 0 ∧ t 19 = .sc (.bool ((!x2) || (decide (80 ≤ (a0.Funs.length : Int))))) ∧ H b1 = some (.cells (c26 a0) 26) ∧ b1 < n) (fun J1 hJ1 => ?_) ?_
 ·rcases Bool.eq_false_or_eq_true (!x2) with hb1 | hb1
  ·rw [hb1] at f14
   refine Stk.run 5 (fun t H n => t 1 = .sc (.int .u8 a1) ∧ t 2 = .own b1 0 ∧ t 19 = .sc (.bool true) ∧ H b1 = some (.cells (c26 a0) 26) ∧ b1 < n) (fun J hJ => ?_) ?_
   ·simp [-splice, f1, f2, f14, b_b1]
    exact hJ _ _ _ ⟨by simp [f1], by simp [f2], by simp [-splice, f1, f2, f14, b_b1], b_b1, l_b1⟩
   clear f1 f2 f14 b_b1 l_b1
   rintro t H n ⟨f1, f2, f19, b_b1, l_b1⟩
   refine Stk.on ?_
   exact Stk.ln 0 (by decide) (hJ1 _ _ _ ⟨f1, f2, f19.trans (congrArg (fun q => AV.sc (.bool q)) (by rw [hb1]; rfl)), b_b1, l_b1⟩)
  ·rw [hb1] at f14
   refine Stk.run 5 (fun t H n => t 1 = .sc (.int .u8 a1) ∧ t 2 = .own b1 0 ∧ t 19 = .sc (.bool (decide (80 ≤ (a0.Funs.length : Int)))) ∧ H b1 = some (.cells (c26 a0) 26) ∧ b1 < n) (fun J hJ => ?_) ?_
   ·simp [-splice, f1, f2, f14, b_b1, ld_26_0_22]
    exact hJ _ _ _ ⟨by simp [f1], by simp [f2], by simp [-splice, f1, f2, f14, b_b1, ld_26_0_22], b_b1, l_b1⟩
   clear f1 f2 f14 b_b1 l_b1
   rintro t H n ⟨f1, f2, f19, b_b1, l_b1⟩
   refine Stk.on ?_
   exact Stk.ln 0 (by decide) (hJ1 _ _ _ ⟨f1, f2, f19.trans (congrArg (fun q => AV.sc (.bool q)) (by rw [hb1]; rfl)), b_b1, l_b1⟩)
 clear f1 f2 f14 b_b1 l_b1
 rintro t H n ⟨f1, f2, f19, b_b1, l_b1⟩
 refine Stk.run 1 (fun t H n => t 1 = .sc (.int .u8 a1) ∧ t 2 = .own b1 0 ∧ t 20 = .sc (.bool ((!x2) || (decide (80 ≤ (a0.Funs.length : Int))))) ∧ H b1 = some (.cells (c26 a0) 26) ∧ b1 < n) (fun J hJ => ?_) ?_
 ·simp [-splice, f1, f2, f19, b_b1]
  exact hJ _ _ _ ⟨by simp [f1], by simp [f2], by simp [-splice, f1, f2, f19, b_b1], b_b1, l_b1⟩
 clear f1 f2 f19 b_b1 l_b1
 rintro t H n ⟨f1, f2, f20, b_b1, l_b1⟩
 refine Stk.jo 5 (fun t H n => t 1 = .sc (.int .u8 a1) ∧ t 2 = .own b1 0 ∧ t 25 = .sc (.bool (((!x2) || (decide (80 ≤ (a0.Funs.length : Int)))) || (decide (4096 ≤ (a0.Texts.length : Int))))) ∧ H b1 = some (.cells (c26 a0) 26) ∧ b1 < n) (fun J2 hJ2 => ?_) ?_
 ·rcases Bool.eq_false_or_eq_true ((!x2) || (decide (80 ≤ (a0.Funs.length : Int)))) with hb2 | hb2
  ·rw [hb2] at f20
   refine Stk.run 5 (fun t H n => t 1 = .sc (.int .u8 a1) ∧ t 2 = .own b1 0 ∧ t 25 = .sc (.bool true) ∧ H b1 = some (.cells (c26 a0) 26) ∧ b1 < n) (fun J hJ => ?_) ?_
   ·simp [-splice, f1, f2, f20, b_b1]
    exact hJ _ _ _ ⟨by simp [f1], by simp [f2], by simp [-splice, f1, f2, f20, b_b1], b_b1, l_b1⟩
   clear f1 f2 f20 b_b1 l_b1
   rintro t H n ⟨f1, f2, f25, b_b1, l_b1⟩
   refine Stk.on ?_
   exact Stk.ln 0 (by decide) (hJ2 _ _ _ ⟨f1, f2, f25.trans (congrArg (fun q => AV.sc (.bool q)) (by rw [hb2]; rfl)), b_b1, l_b1⟩)
  ·rw [hb2] at f20
   refine Stk.run 5 (fun t H n => t 1 = .sc (.int .u8 a1) ∧ t 2 = .own b1 0 ∧ t 25 = .sc (.bool (decide (4096 ≤ (a0.Texts.length : Int)))) ∧ H b1 = some (.cells (c26 a0) 26) ∧ b1 < n) (fun J hJ => ?_) ?_
   ·simp [-splice, f1, f2, f20, b_b1, ld_26_1_23]
    exact hJ _ _ _ ⟨by simp [f1], by simp [f2], by simp [-splice, f1, f2, f20, b_b1, ld_26_1_23], b_b1, l_b1⟩
   clear f1 f2 f20 b_b1 l_b1
   rintro t H n ⟨f1, f2, f25, b_b1, l_b1⟩
   refine Stk.on ?_
   exact Stk.ln 0 (by decide) (hJ2 _ _ _ ⟨f1, f2, f25.trans (congrArg (fun q => AV.sc (.bool q)) (by rw [hb2]; rfl)), b_b1, l_b1⟩)
 clear f1 f2 f20 b_b1 l_b1
 rintro t H n ⟨f1, f2, f25, b_b1, l_b1⟩
 refine Stk.run 1 (fun t H n => t 1 = .sc (.int .u8 a1) ∧ t 2 = .own b1 0 ∧ t 26 = .sc (.bool (((!x2) || (decide (80 ≤ (a0.Funs.length : Int)))) || (decide (4096 ≤ (a0.Texts.length : Int))))) ∧ H b1 = some (.cells (c26 a0) 26) ∧ b1 < n) (fun J hJ => ?_) ?_
 ·simp [-splice, f1, f2, f25, b_b1]
  exact hJ _ _ _ ⟨by simp [f1], by simp [f2], by simp [-splice, f1, f2, f25, b_b1], b_b1, l_b1⟩
 clear f1 f2 f25 b_b1 l_b1
 rintro t H n ⟨f1, f2, f26, b_b1, l_b1⟩
 refine Stk.jo 5 (fun t H n => t 1 = .sc (.int .u8 a1) ∧ t 2 = .own b1 0 ∧ t 31 = .sc (.bool ((((!x2) || (decide (80 ≤ (a0.Funs.length : Int)))) || (decide (4096 ≤ (a0.Texts.length : Int)))) || (decide (65536 ≤ (a0.Tables.length : Int))))) ∧ H b1 = some (.cells (c26 a0) 26) ∧ b1 < n) (fun J3 hJ3 => ?_) ?_
 ·rcases Bool.eq_false_or_eq_true (((!x2) || (decide (80 ≤ (a0.Funs.length : Int)))) || (decide (4096 ≤ (a0.Texts.length : Int)))) with hb3 | hb3
  ·rw [hb3] at f26
   refine Stk.run 5 (fun t H n => t 1 = .sc (.int .u8 a1) ∧ t 2 = .own b1 0 ∧ t 31 = .sc (.bool true) ∧ H b1 = some (.cells (c26 a0) 26) ∧ b1 < n) (fun J hJ => ?_) ?_
   ·simp [-splice, f1, f2, f26, b_b1]
    exact hJ _ _ _ ⟨by simp [f1], by simp [f2], by simp [-splice, f1, f2, f26, b_b1], b_b1, l_b1⟩
   clear f1 f2 f26 b_b1 l_b1
   rintro t H n ⟨f1, f2, f31, b_b1, l_b1⟩
   refine Stk.on ?_
   exact Stk.ln 0 (by decide) (hJ3 _ _ _ ⟨f1, f2, f31.trans (congrArg (fun q => AV.sc (.bool q)) (by rw [hb3]; rfl)), b_b1, l_b1⟩)
  ·rw [hb3] at f26
   refine Stk.run 5 (fun t H n => t 1 = .sc (.int .u8 a1) ∧ t 2 = .own b1 0 ∧ t 31 = .sc (.bool (decide (65536 ≤ (a0.Tables.length : Int)))) ∧ H b1 = some (.cells (c26 a0) 26) ∧ b1 < n) (fun J hJ => ?_) ?_
   ·simp [-splice, f1, f2, f26, b_b1, ld_26_2_24]
    exact hJ _ _ _ ⟨by simp [f1], by simp [f2], by simp [-splice, f1, f2, f26, b_b1, ld_26_2_24], b_b1, l_b1⟩
   clear f1 f2 f26 b_b1 l_b1
   rintro t H n ⟨f1, f2, f31, b_b1, l_b1⟩
   refine Stk.on ?_
   exact Stk.ln 0 (by decide) (hJ3 _ _ _ ⟨f1, f2, f31.trans (congrArg (fun q => AV.sc (.bool q)) (by rw [hb3]; rfl)), b_b1, l_b1⟩)
 clear f1 f2 f26 b_b1 l_b1
 rintro t H n ⟨f1, f2, f31, b_b1, l_b1⟩
 refine Stk.on ?_
 refine Stk.cond ((((!x2) || (decide (80 ≤ (a0.Funs.length : Int)))) || (decide (4096 ≤ (a0.Texts.length : Int)))) || (decide (65536 ≤ (a0.Tables.length : Int)))) (by exact f31) (fun hb3 => ?_) (fun hb3 => ?_)
 ·have h := cT hb3 h
  refine Stk.sq ?_
  refine Stk.rg ?_
  obtain ⟨x4, hx4, h⟩ := bnd h
  refine Stk.cv (g := 7) (args := []) (args' := []) (v := .sc (.bool x4)) [] (ok_L21_awake F  _ hx4) (by simp [f1, f2, f31]) rfl rfl (by simp [f1, f2, f31]) (.nil) (.inl ⟨rfl, rfl⟩) (fun t' ht' => ?_)
  refine Stk.gen (fun t H n => t 32 = .sc (.bool x4)) (by simp [ht']) ?_
  clear f1 f2 f31 b_b1 l_b1 ht' t'
  rintro t H n f32
  refine Stk.run 1 (fun t H n => t 4 = .sc (.bool x4)) (fun J hJ => ?_) ?_
  ·simp [-splice, f32]
   exact hJ _ _ _ (by simp [-splice, f32])
  clear f32
  rintro t H n f4
  refine Stk.on ?_
  refine Stk.rt ?_
  have hq := Option.some.inj h; subst hq
  exact (hr _ _ _ (.sc (.bool x4)) ([]) (by simp [f4]) (.inr (.inr (.free (rfl))))).1
 ·have h := cF hb3 h
  refine Stk.sk ?_
  refine Stk.sq ?_
  refine Stk.rg ?_
  refine Stk.run 1 (fun t H n => t 1 = .sc (.int .u8 a1) ∧ t 2 = .own b1 0 ∧ t 34 = .agg (c26 a0) ∧ H b1 = some (.cells (c26 a0) 26) ∧ b1 < n) (fun J hJ => ?_) ?_
  ·simp [-splice, f1, f2, f31, b_b1, ld_26_0_26]
   exact hJ _ _ _ ⟨by simp [f1], by simp [f2], by simp [-splice, f1, f2, f31, b_b1, ld_26_0_26], b_b1, l_b1⟩
  clear f1 f2 f31 b_b1 l_b1
  rintro t H n ⟨f1, f2, f34, b_b1, l_b1⟩
  obtain ⟨x5, hx5, h⟩ := bnd h
  refine Stk.cv (g := 8) (args := [.agg (c26 a0)]) (args' := [.agg (c26 a0)]) (v := .tup [.ssl (encs c36 x5.1) x5.1.length false, .sc (.int .i64 x5.2)]) [] (ok_flow_Check F _ _ hx5) (by simp [f1, f2, f34]) rfl rfl (by simp [f1, f2, f34]) (.cons (.free (fr26 _)) (.nil)) (.inl ⟨rfl, by simp [free, freeL, freeL_encs fr36]⟩) (fun t' ht' => ?_)
  refine Stk.gen (fun t H n => t 1 = .sc (.int .u8 a1) ∧ t 2 = .own b1 0 ∧ t 35 = .tup [.ssl (encs c36 x5.1) x5.1.length false, .sc (.int .i64 x5.2)] ∧ H b1 = some (.cells (c26 a0) 26) ∧ b1 < n) ⟨by simp [ht', f1], by simp [ht', f2], by simp [ht'], b_b1, l_b1⟩ ?_
  clear f1 f2 f34 b_b1 l_b1 ht' t'
  rintro t H n ⟨f1, f2, f35, b_b1, l_b1⟩
  refine Stk.run 5 (fun t H n => t 1 = .sc (.int .u8 a1) ∧ t 2 = .own b1 0 ∧ t 5 = .ssl (encs c36 x5.1) x5.1.length false ∧ t 6 = .sc (.int .i64 x5.2) ∧ H b1 = some (.cells (c26 a0) 26) ∧ b1 < n) (fun J hJ => ?_) ?_
  ·simp [-splice, f1, f2, f35, b_b1]
   exact hJ _ _ _ ⟨by simp [f1], by simp [f2], by simp [-splice, f1, f2, f35, b_b1], by simp [-splice, f1, f2, f35, b_b1], b_b1, l_b1⟩
  clear f1 f2 f35 b_b1 l_b1
  rintro t H n ⟨f1, f2, f5, f6, b_b1, l_b1⟩
  refine Stk.on ?_
  refine Stk.sq ?_
  refine Stk.sq ?_
  refine Stk.rg ?_
  refine Stk.run 2 (fun t H n => t 1 = .sc (.int .u8 a1) ∧ t 2 = .own b1 0 ∧ t 5 = .ssl (encs c36 x5.1) x5.1.length false ∧ t 39 = .sc (.bool (x5.2 != 0)) ∧ H b1 = some (.cells (c26 a0) 26) ∧ b1 < n) (fun J hJ => ?_) ?_
  ·simp [-splice, f1, f2, f5, f6, b_b1]
   exact hJ _ _ _ ⟨by simp [f1], by simp [f2], by simp [f5], by simp [-splice, f1, f2, f5, f6, b_b1], b_b1, l_b1⟩
  clear f1 f2 f5 f6 b_b1 l_b1
  rintro t H n ⟨f1, f2, f5, f39, b_b1, l_b1⟩
  refine Stk.on ?_
  refine Stk.cond (x5.2 != 0) (by exact f39) (fun hb6 => ?_) (fun hb6 => ?_)
  ·have h := cT hb6 h
   refine Stk.sq ?_
   refine Stk.rg ?_
   obtain ⟨x7, hx7, h⟩ := bnd h
   refine Stk.cv (g := 7) (args := []) (args' := []) (v := .sc (.bool x7)) [] (ok_L21_awake F  _ hx7) (by simp [f1, f2, f5, f39]) rfl rfl (by simp [f1, f2, f5, f39]) (.nil) (.inl ⟨rfl, rfl⟩) (fun t' ht' => ?_)
   refine Stk.gen (fun t H n => t 40 = .sc (.bool x7)) (by simp [ht']) ?_
   clear f1 f2 f5 f39 b_b1 l_b1 ht' t'
   rintro t H n f40
   refine Stk.run 1 (fun t H n => t 4 = .sc (.bool x7)) (fun J hJ => ?_) ?_
   ·simp [-splice, f40]
    exact hJ _ _ _ (by simp [-splice, f40])
   clear f40
   rintro t H n f4
   refine Stk.on ?_
   refine Stk.rt ?_
   have hq := Option.some.inj h; subst hq
   exact (hr _ _ _ (.sc (.bool x7)) ([]) (by simp [f4]) (.inr (.inr (.free (rfl))))).1
  ·have h := cF hb6 h
   refine Stk.sk ?_
   refine Stk.sq ?_
   refine Stk.rg ?_
   refine Stk.run 5 (fun t H n => t 2 = .own b1 0 ∧ t 5 = .ssl (encs c36 x5.1) x5.1.length false ∧ t 7 = .sc (.int .i64 (IntKind.i64.wrap (1 + ((IntKind.i64.wrap a1).tmod 6)))) ∧ H b1 = some (.cells (c26 a0) 26) ∧ b1 < n) (fun J hJ => ?_) ?_
   ·simp [-splice, f1, f2, f5, f39, b_b1]
    exact hJ _ _ _ ⟨by simp [f2], by simp [f5], by simp [-splice, f1, f2, f5, f39, b_b1], b_b1, l_b1⟩
   clear f1 f2 f5 f39 b_b1 l_b1
   rintro t H n ⟨f2, f5, f7, b_b1, l_b1⟩
   refine Stk.on ?_
   refine Stk.sq ?_
   refine Stk.rg ?_
   refine Stk.run 1 (fun t H n => t 2 = .own b1 0 ∧ t 5 = .ssl (encs c36 x5.1) x5.1.length false ∧ t 7 = .sc (.int .i64 (IntKind.i64.wrap (1 + ((IntKind.i64.wrap a1).tmod 6)))) ∧ t 45 = .agg (c26 a0) ∧ H b1 = some (.cells (c26 a0) 26) ∧ b1 < n) (fun J hJ => ?_) ?_
   ·simp [-splice, f2, f5, f7, b_b1, ld_26_0_26]
    exact hJ _ _ _ ⟨by simp [f2], by simp [f5], by simp [f7], by simp [-splice, f2, f5, f7, b_b1, ld_26_0_26], b_b1, l_b1⟩
   clear f2 f5 f7 b_b1 l_b1
   rintro t H n ⟨f2, f5, f7, f45, b_b1, l_b1⟩
   refine Stk.oz T.t26 (cs := c26 (api_Code.mk [] [] [])) (by rfl) rfl (by simp [f2, f5, f7, f45]) rfl (fun t' ht' => ?_)
   refine Stk.gen (fun t H n => ∃ b8, t 2 = .own b1 0 ∧ t 5 = .ssl (encs c36 x5.1) x5.1.length false ∧ t 7 = .sc (.int .i64 (IntKind.i64.wrap (1 + ((IntKind.i64.wrap a1).tmod 6)))) ∧ t 8 = .own b8 0 ∧ t 45 = .agg (c26 a0) ∧ H b1 = some (.cells (c26 a0) 26) ∧ b1 < n ∧ H b8 = some (.cells (c26 (api_Code.mk [] [] [])) 26) ∧ b8 < n ∧ b1 ≠ b8) ⟨n, by simp [ht', f2], by simp [ht', f5], by simp [ht', f7], by simp [ht'], by simp [ht', f45], (upd_ne _ _ (Nat.ne_of_lt l_b1)).trans b_b1, Nat.lt_succ_of_lt l_b1, upd_same _ _ _, Nat.lt_succ_self _, Nat.ne_of_lt l_b1⟩ ?_
   clear f2 f5 f7 f45 b_b1 l_b1 ht' t'
   rintro t H n ⟨b8, f2, f5, f7, f8, f45, b_b1, l_b1, b_b8, l_b8, d_b1_b8⟩
   refine Stk.om (mop_store (z := 3) rfl f8 b_b8 f45 (len26 _) (by rw [len26]; decide) (ok26 _) (st_26_0_26 _ _)) (by simp [f2, f5, f7, f8, f45]) rfl (fun t' ht' => ?_)
   refine Stk.gen (fun t H n => t 2 = .own b1 0 ∧ t 5 = .ssl (encs c36 x5.1) x5.1.length false ∧ t 7 = .sc (.int .i64 (IntKind.i64.wrap (1 + ((IntKind.i64.wrap a1).tmod 6)))) ∧ t 8 = .own b8 0 ∧ H b1 = some (.cells (c26 a0) 26) ∧ b1 < n ∧ H b8 = some (.cells (c26 a0) 26) ∧ b8 < n ∧ b1 ≠ b8) ⟨by simp [ht', f2], by simp [ht', f5], by simp [ht', f7], by simp [ht', f8], (upd_ne _ _ d_b1_b8).trans b_b1, l_b1, upd_same _ _ _, l_b8, d_b1_b8⟩ ?_
   clear f2 f5 f7 f8 f45 b_b1 l_b1 b_b8 l_b8 d_b1_b8 ht' t'
   rintro t H n ⟨f2, f5, f7, f8, b_b1, l_b1, b_b8, l_b8, d_b1_b8⟩
   refine Stk.on ?_
   refine Stk.sq ?_
   refine Stk.rg ?_
   refine Stk.om (mop_buildN (c := c41) (z := 4) T.t22 rfl T.t41 rfl (by decide) rfl (by decide) [] rfl (.nil)) (by simp [f2, f5, f7, f8]) rfl (fun t' ht' => ?_)
   refine Stk.gen (fun t H n => ∃ b9, t 2 = .own b1 0 ∧ t 5 = .ssl (encs c36 x5.1) x5.1.length false ∧ t 7 = .sc (.int .i64 (IntKind.i64.wrap (1 + ((IntKind.i64.wrap a1).tmod 6)))) ∧ t 8 = .own b8 0 ∧ t 46 = .osl b9 0 ([] : List api_Func).length (some ([] : List api_Func).length) ∧ H b1 = some (.cells (c26 a0) 26) ∧ b1 < n ∧ H b8 = some (.cells (c26 a0) 26) ∧ b8 < n ∧ H b9 = some (.cells (encs c41 ([] : List api_Func)) 41) ∧ b9 < n ∧ b1 ≠ b8 ∧ b1 ≠ b9 ∧ b8 ≠ b9) ⟨n, by simp [ht', f2], by simp [ht', f5], by simp [ht', f7], by simp [ht', f8], by simp [ht'], (upd_ne _ _ (Nat.ne_of_lt l_b1)).trans b_b1, Nat.lt_succ_of_lt l_b1, (upd_ne _ _ (Nat.ne_of_lt l_b8)).trans b_b8, Nat.lt_succ_of_lt l_b8, upd_same _ _ _, Nat.lt_succ_self _, d_b1_b8, Nat.ne_of_lt l_b1, Nat.ne_of_lt l_b8⟩ ?_
   clear f2 f5 f7 f8 b_b1 l_b1 b_b8 l_b8 d_b1_b8 ht' t'
   rintro t H n ⟨b9, f2, f5, f7, f8, f46, b_b1, l_b1, b_b8, l_b8, b_b9, l_b9, d_b1_b8, d_b1_b9, d_b8_b9⟩
   refine Stk.run 2 (fun t H n => t 2 = .own b1 0 ∧ t 5 = .ssl (encs c36 x5.1) x5.1.length false ∧ t 7 = .sc (.int .i64 (IntKind.i64.wrap (1 + ((IntKind.i64.wrap a1).tmod 6)))) ∧ t 8 = .own b8 0 ∧ t 46 = .osl b9 0 ([] : List api_Func).length (some ([] : List api_Func).length) ∧ t 48 = .ssl (encs c41 a0.Funs) a0.Funs.length false ∧ H b1 = some (.cells (c26 a0) 26) ∧ b1 < n ∧ H b8 = some (.cells (c26 a0) 26) ∧ b8 < n ∧ H b9 = some (.cells (encs c41 ([] : List api_Func)) 41) ∧ b9 < n ∧ b1 ≠ b8 ∧ b1 ≠ b9 ∧ b8 ≠ b9) (fun J hJ => ?_) ?_
   ·simp [-splice, f2, f5, f7, f8, f46, b_b1, b_b8, b_b9, ld_26_0_22]
    exact hJ _ _ _ ⟨by simp [f2], by simp [f5], by simp [f7], by simp [f8], by simp [f46], by simp [-splice, f2, f5, f7, f8, f46, b_b1, b_b8, b_b9, ld_26_0_22], b_b1, l_b1, b_b8, l_b8, b_b9, l_b9, d_b1_b8, d_b1_b9, d_b8_b9⟩
   clear f2 f5 f7 f8 f46 b_b1 l_b1 b_b8 l_b8 b_b9 l_b9 d_b1_b8 d_b1_b9 d_b8_b9
   rintro t H n ⟨f2, f5, f7, f8, f46, f48, b_b1, l_b1, b_b8, l_b8, b_b9, l_b9, d_b1_b8, d_b1_b9, d_b8_b9⟩
   obtain ⟨x10, hx10, h⟩ := bnd h
   obtain ⟨r1x10, r2x10, r3x10⟩ := appM_ok hx10
   obtain ⟨o11, co11, H9, n9, e9, w9, le9, fr9, kp9⟩ := append_ownC (e := c41) (z := 4) (st := 22) T.t22 rfl T.t41 rfl (by decide) rfl (by decide) (ownC_row b_b9) (fun i hi => by cases hi; exact l_b9) (y := .ssl (encs c41 a0.Funs) a0.Funs.length false) a0.Funs (elems_ssl) (all_encs ok41 _) r1x10 r2x10
   rw [r3x10] at e9 w9
   refine Stk.om ((mop_append T.t22 rfl).trans (by rw [show ev t (.tmp 46) = t 46 from rfl, f46]; rw [show ev t (.tmp 48) = t 48 from rfl, f48];  exact e9)) (by simp [f2, f5, f7, f8, f46, f48]) rfl (fun t' ht' => ?_)
   refine Stk.gen (fun t H n => t 2 = .own b1 0 ∧ t 5 = .ssl (encs c36 x5.1) x5.1.length false ∧ t 7 = .sc (.int .i64 (IntKind.i64.wrap (1 + ((IntKind.i64.wrap a1).tmod 6)))) ∧ t 8 = .own b8 0 ∧ t 49 = slc o11 x10.length co11 ∧ H b1 = some (.cells (c26 a0) 26) ∧ b1 < n ∧ H b8 = some (.cells (c26 a0) 26) ∧ b8 < n ∧ OwnC H 41 4 c41 o11 co11 x10 ∧ (∀ i, o11 = some i → i < n) ∧ b1 ≠ b8 ∧ (∀ i, o11 = some i → i ≠ b1) ∧ (∀ i, o11 = some i → i ≠ b8)) ⟨by simp [ht', f2], by simp [ht', f5], by simp [ht', f7], by simp [ht', f8], by simp [ht'], (kp9 _ l_b1 (fun e => d_b1_b9 (Option.some.inj e).symm)).trans b_b1, Nat.lt_of_lt_of_le l_b1 le9, (kp9 _ l_b8 (fun e => d_b8_b9 (Option.some.inj e).symm)).trans b_b8, Nat.lt_of_lt_of_le l_b8 le9, w9, fun i hi => (fr9 i hi).2, d_b1_b8, fun i hi e => by rcases (fr9 i hi).1 with g | g; exact d_b1_b9 (by rw [← e]; exact (Option.some.inj g).symm); have := l_b1; omega, fun i hi e => by rcases (fr9 i hi).1 with g | g; exact d_b8_b9 (by rw [← e]; exact (Option.some.inj g).symm); have := l_b8; omega⟩ ?_
   clear f2 f5 f7 f8 f46 f48 b_b1 l_b1 b_b8 l_b8 b_b9 l_b9 d_b1_b8 d_b1_b9 d_b8_b9 ht' t'
   rintro t H n ⟨f2, f5, f7, f8, f49, b_b1, l_b1, b_b8, l_b8, b_o11, l_o11, d_b1_b8, d_b1_o11, d_b8_o11⟩
   refine Stk.run 2 (fun t H n => t 2 = .own b1 0 ∧ t 5 = .ssl (encs c36 x5.1) x5.1.length false ∧ t 7 = .sc (.int .i64 (IntKind.i64.wrap (1 + ((IntKind.i64.wrap a1).tmod 6)))) ∧ t 8 = .own b8 0 ∧ t 49 = slc o11 x10.length co11 ∧ t 50 = .sc (.int .i64 (IntKind.i64.wrap (1 + ((IntKind.i64.wrap a1).tmod 6)))) ∧ t 51 = .sc (.int .i64 (IntKind.i64.wrap (1 + ((IntKind.i64.wrap a1).tmod 6)))) ∧ H b1 = some (.cells (c26 a0) 26) ∧ b1 < n ∧ H b8 = some (.cells (c26 a0) 26) ∧ b8 < n ∧ OwnC H 41 4 c41 o11 co11 x10 ∧ (∀ i, o11 = some i → i < n) ∧ b1 ≠ b8 ∧ (∀ i, o11 = some i → i ≠ b1) ∧ (∀ i, o11 = some i → i ≠ b8)) (fun J hJ => ?_) ?_
   ·simp [-splice, f2, f5, f7, f8, f49, b_b1, b_b8]
    exact hJ _ _ _ ⟨by simp [f2], by simp [f5], by simp [f7], by simp [f8], by simp [f49], by simp [-splice, f2, f5, f7, f8, f49, b_b1, b_b8], by simp [-splice, f2, f5, f7, f8, f49, b_b1, b_b8], b_b1, l_b1, b_b8, l_b8, b_o11, l_o11, d_b1_b8, d_b1_o11, d_b8_o11⟩
   clear f2 f5 f7 f8 f49 b_b1 l_b1 b_b8 l_b8 b_o11 l_o11 d_b1_b8 d_b1_o11 d_b8_o11
   rintro t H n ⟨f2, f5, f7, f8, f49, f50, f51, b_b1, l_b1, b_b8, l_b8, b_o11, l_o11, d_b1_b8, d_b1_o11, d_b8_o11⟩
   refine Stk.ov (vop_build T.t44 rfl rfl (cs := c44 (api_Inst.mk 0 0 0 0)) (cs' := c44 (api_Inst.mk 7 0 0 0)) rfl (.cons rfl rfl rfl rfl rfl (rfl) (by rw [len44]; decide) (st_44_0_3 _ _) (.nil))) (by simp [f2, f5, f7, f8, f49, f50, f51]) rfl (fun t' ht' => ?_)
   refine Stk.gen (fun t H n => t 2 = .own b1 0 ∧ t 5 = .ssl (encs c36 x5.1) x5.1.length false ∧ t 7 = .sc (.int .i64 (IntKind.i64.wrap (1 + ((IntKind.i64.wrap a1).tmod 6)))) ∧ t 8 = .own b8 0 ∧ t 49 = slc o11 x10.length co11 ∧ t 50 = .sc (.int .i64 (IntKind.i64.wrap (1 + ((IntKind.i64.wrap a1).tmod 6)))) ∧ t 51 = .sc (.int .i64 (IntKind.i64.wrap (1 + ((IntKind.i64.wrap a1).tmod 6)))) ∧ t 52 = .agg (c44 (api_Inst.mk 7 0 0 0)) ∧ H b1 = some (.cells (c26 a0) 26) ∧ b1 < n ∧ H b8 = some (.cells (c26 a0) 26) ∧ b8 < n ∧ OwnC H 41 4 c41 o11 co11 x10 ∧ (∀ i, o11 = some i → i < n) ∧ b1 ≠ b8 ∧ (∀ i, o11 = some i → i ≠ b1) ∧ (∀ i, o11 = some i → i ≠ b8)) ⟨by simp [ht', f2], by simp [ht', f5], by simp [ht', f7], by simp [ht', f8], by simp [ht', f49], by simp [ht', f50], by simp [ht', f51], by simp [ht'], b_b1, l_b1, b_b8, l_b8, b_o11, l_o11, d_b1_b8, d_b1_o11, d_b8_o11⟩ ?_
   clear f2 f5 f7 f8 f49 f50 f51 b_b1 l_b1 b_b8 l_b8 b_o11 l_o11 d_b1_b8 d_b1_o11 d_b8_o11 ht' t'
   rintro t H n ⟨f2, f5, f7, f8, f49, f50, f51, f52, b_b1, l_b1, b_b8, l_b8, b_o11, l_o11, d_b1_b8, d_b1_o11, d_b8_o11⟩
   refine Stk.om (mop_buildN (c := c44) (z := 4) T.t39 rfl T.t44 rfl (by decide) rfl (by decide) [(api_Inst.mk 7 0 0 0)] rfl (.cons f52 rfl rfl rfl (len44 _) (by simp [length_encs]) (splice_next (c := c44) [] _ (api_Inst.mk 7 0 0 0) rfl (by simp)) (.nil))) (by simp [f2, f5, f7, f8, f49, f50, f51, f52]) rfl (fun t' ht' => ?_)
   refine Stk.gen (fun t H n => ∃ b12, t 2 = .own b1 0 ∧ t 5 = .ssl (encs c36 x5.1) x5.1.length false ∧ t 7 = .sc (.int .i64 (IntKind.i64.wrap (1 + ((IntKind.i64.wrap a1).tmod 6)))) ∧ t 8 = .own b8 0 ∧ t 49 = slc o11 x10.length co11 ∧ t 50 = .sc (.int .i64 (IntKind.i64.wrap (1 + ((IntKind.i64.wrap a1).tmod 6)))) ∧ t 51 = .sc (.int .i64 (IntKind.i64.wrap (1 + ((IntKind.i64.wrap a1).tmod 6)))) ∧ t 53 = .osl b12 0 ([(api_Inst.mk 7 0 0 0)] : List api_Inst).length (some ([(api_Inst.mk 7 0 0 0)] : List api_Inst).length) ∧ H b1 = some (.cells (c26 a0) 26) ∧ b1 < n ∧ H b8 = some (.cells (c26 a0) 26) ∧ b8 < n ∧ H b12 = some (.cells (encs c44 ([(api_Inst.mk 7 0 0 0)] : List api_Inst)) 44) ∧ b12 < n ∧ OwnC H 41 4 c41 o11 co11 x10 ∧ (∀ i, o11 = some i → i < n) ∧ b1 ≠ b8 ∧ b1 ≠ b12 ∧ b8 ≠ b12 ∧ (∀ i, o11 = some i → i ≠ b1) ∧ (∀ i, o11 = some i → i ≠ b8) ∧ (∀ i, o11 = some i → i ≠ b12)) ⟨n, by simp [ht', f2], by simp [ht', f5], by simp [ht', f7], by simp [ht', f8], by simp [ht', f49], by simp [ht', f50], by simp [ht', f51], by simp [ht'], (upd_ne _ _ (Nat.ne_of_lt l_b1)).trans b_b1, Nat.lt_succ_of_lt l_b1, (upd_ne _ _ (Nat.ne_of_lt l_b8)).trans b_b8, Nat.lt_succ_of_lt l_b8, upd_same _ _ _, Nat.lt_succ_self _, b_o11.mono (fun i hi => upd_ne _ _ (Nat.ne_of_lt (l_o11 i hi))), fun i hi => Nat.lt_succ_of_lt (l_o11 i hi), d_b1_b8, Nat.ne_of_lt l_b1, Nat.ne_of_lt l_b8, d_b1_o11, d_b8_o11, fun i hi => Nat.ne_of_lt (l_o11 i hi)⟩ ?_
   clear f2 f5 f7 f8 f49 f50 f51 f52 b_b1 l_b1 b_b8 l_b8 b_o11 l_o11 d_b1_b8 d_b1_o11 d_b8_o11 ht' t'
   rintro t H n ⟨b12, f2, f5, f7, f8, f49, f50, f51, f53, b_b1, l_b1, b_b8, l_b8, b_b12, l_b12, b_o11, l_o11, d_b1_b8, d_b1_b12, d_b8_b12, d_b1_o11, d_b8_o11, d_b12_o11⟩
   refine Stk.wkf trivial [b12] 53 (.ssl (encs c44 ([(api_Inst.mk 7 0 0 0)] : List api_Inst)) ([(api_Inst.mk 7 0 0 0)] : List api_Inst).length false) (by rw [f53]; exact .inr (.inr (view_row fr44 b_b12 (by simp) _))) (fun t' H' ht' hH' => ?_)
   refine Stk.gen (fun t H n => t 2 = .own b1 0 ∧ t 5 = .ssl (encs c36 x5.1) x5.1.length false ∧ t 7 = .sc (.int .i64 (IntKind.i64.wrap (1 + ((IntKind.i64.wrap a1).tmod 6)))) ∧ t 8 = .own b8 0 ∧ t 49 = slc o11 x10.length co11 ∧ t 50 = .sc (.int .i64 (IntKind.i64.wrap (1 + ((IntKind.i64.wrap a1).tmod 6)))) ∧ t 51 = .sc (.int .i64 (IntKind.i64.wrap (1 + ((IntKind.i64.wrap a1).tmod 6)))) ∧ t 53 = .ssl (encs c44 ([(api_Inst.mk 7 0 0 0)] : List api_Inst)) ([(api_Inst.mk 7 0 0 0)] : List api_Inst).length false ∧ H b1 = some (.cells (c26 a0) 26) ∧ b1 < n ∧ H b8 = some (.cells (c26 a0) 26) ∧ b8 < n ∧ OwnC H 41 4 c41 o11 co11 x10 ∧ (∀ i, o11 = some i → i < n) ∧ b1 ≠ b8 ∧ (∀ i, o11 = some i → i ≠ b1) ∧ (∀ i, o11 = some i → i ≠ b8)) ⟨by simp [ht', f2], by simp [ht', f5], by simp [ht', f7], by simp [ht', f8], by simp [ht', f49], by simp [ht', f50], by simp [ht', f51], by simp [ht', f53], (hH' _ (by simp; exact d_b1_b12)).trans b_b1, l_b1, (hH' _ (by simp; exact d_b8_b12)).trans b_b8, l_b8, b_o11.mono (fun i hi => hH' i (by simp; exact d_b12_o11 i hi)), l_o11, d_b1_b8, d_b1_o11, d_b8_o11⟩ ?_
   clear f2 f5 f7 f8 f49 f50 f51 f53 b_b1 l_b1 b_b8 l_b8 b_b12 l_b12 b_o11 l_o11 d_b1_b8 d_b1_b12 d_b8_b12 d_b1_o11 d_b8_o11 d_b12_o11 hH' ht' t' H'
   rintro t H n ⟨f2, f5, f7, f8, f49, f50, f51, f53, b_b1, l_b1, b_b8, l_b8, b_o11, l_o11, d_b1_b8, d_b1_o11, d_b8_o11⟩
   refine Stk.ov (vop_build T.t41 rfl rfl (cs := c41 (api_Func.mk ⟨#[]⟩ 0 0 [])) (cs' := c41 (api_Func.mk (⟨#[109, 111, 114, 101]⟩ : ByteArray) (IntKind.i64.wrap (1 + ((IntKind.i64.wrap a1).tmod 6))) (IntKind.i64.wrap (1 + ((IntKind.i64.wrap a1).tmod 6))) ([(api_Inst.mk 7 0 0 0)] : List api_Inst))) rfl (.cons rfl rfl rfl rfl rfl (rfl) (by rw [len41]; decide) (st_41_0_9 _ _) (.cons f50 rfl rfl rfl rfl (rfl) (by rw [len41]; decide) (st_41_1_3 _ _) (.cons f51 rfl rfl rfl rfl (rfl) (by rw [len41]; decide) (st_41_2_3 _ _) (.cons f53 rfl rfl rfl rfl (rfl) (by rw [len41]; decide) (st_41_3_39 _ _) (.nil)))))) (by simp [f2, f5, f7, f8, f49, f50, f51, f53]) rfl (fun t' ht' => ?_)
   refine Stk.gen (fun t H n => t 2 = .own b1 0 ∧ t 5 = .ssl (encs c36 x5.1) x5.1.length false ∧ t 7 = .sc (.int .i64 (IntKind.i64.wrap (1 + ((IntKind.i64.wrap a1).tmod 6)))) ∧ t 8 = .own b8 0 ∧ t 49 = slc o11 x10.length co11 ∧ t 54 = .agg (c41 (api_Func.mk (⟨#[109, 111, 114, 101]⟩ : ByteArray) (IntKind.i64.wrap (1 + ((IntKind.i64.wrap a1).tmod 6))) (IntKind.i64.wrap (1 + ((IntKind.i64.wrap a1).tmod 6))) ([(api_Inst.mk 7 0 0 0)] : List api_Inst))) ∧ H b1 = some (.cells (c26 a0) 26) ∧ b1 < n ∧ H b8 = some (.cells (c26 a0) 26) ∧ b8 < n ∧ OwnC H 41 4 c41 o11 co11 x10 ∧ (∀ i, o11 = some i → i < n) ∧ b1 ≠ b8 ∧ (∀ i, o11 = some i → i ≠ b1) ∧ (∀ i, o11 = some i → i ≠ b8)) ⟨by simp [ht', f2], by simp [ht', f5], by simp [ht', f7], by simp [ht', f8], by simp [ht', f49], by simp [ht'], b_b1, l_b1, b_b8, l_b8, b_o11, l_o11, d_b1_b8, d_b1_o11, d_b8_o11⟩ ?_
   clear f2 f5 f7 f8 f49 f50 f51 f53 b_b1 l_b1 b_b8 l_b8 b_o11 l_o11 d_b1_b8 d_b1_o11 d_b8_o11 ht' t'
   rintro t H n ⟨f2, f5, f7, f8, f49, f54, b_b1, l_b1, b_b8, l_b8, b_o11, l_o11, d_b1_b8, d_b1_o11, d_b8_o11⟩
   refine Stk.om (mop_buildN (c := c41) (z := 4) T.t22 rfl T.t41 rfl (by decide) rfl (by decide) [(api_Func.mk (⟨#[109, 111, 114, 101]⟩ : ByteArray) (IntKind.i64.wrap (1 + ((IntKind.i64.wrap a1).tmod 6))) (IntKind.i64.wrap (1 + ((IntKind.i64.wrap a1).tmod 6))) ([(api_Inst.mk 7 0 0 0)] : List api_Inst))] rfl (.cons f54 rfl rfl rfl (len41 _) (by simp [length_encs]) (splice_next (c := c41) [] _ (api_Func.mk (⟨#[109, 111, 114, 101]⟩ : ByteArray) (IntKind.i64.wrap (1 + ((IntKind.i64.wrap a1).tmod 6))) (IntKind.i64.wrap (1 + ((IntKind.i64.wrap a1).tmod 6))) ([(api_Inst.mk 7 0 0 0)] : List api_Inst)) rfl (by simp)) (.nil))) (by simp [f2, f5, f7, f8, f49, f54]) rfl (fun t' ht' => ?_)
   refine Stk.gen (fun t H n => ∃ b13, t 2 = .own b1 0 ∧ t 5 = .ssl (encs c36 x5.1) x5.1.length false ∧ t 7 = .sc (.int .i64 (IntKind.i64.wrap (1 + ((IntKind.i64.wrap a1).tmod 6)))) ∧ t 8 = .own b8 0 ∧ t 49 = slc o11 x10.length co11 ∧ t 55 = .osl b13 0 ([(api_Func.mk (⟨#[109, 111, 114, 101]⟩ : ByteArray) (IntKind.i64.wrap (1 + ((IntKind.i64.wrap a1).tmod 6))) (IntKind.i64.wrap (1 + ((IntKind.i64.wrap a1).tmod 6))) ([(api_Inst.mk 7 0 0 0)] : List api_Inst))] : List api_Func).length (some ([(api_Func.mk (⟨#[109, 111, 114, 101]⟩ : ByteArray) (IntKind.i64.wrap (1 + ((IntKind.i64.wrap a1).tmod 6))) (IntKind.i64.wrap (1 + ((IntKind.i64.wrap a1).tmod 6))) ([(api_Inst.mk 7 0 0 0)] : List api_Inst))] : List api_Func).length) ∧ H b1 = some (.cells (c26 a0) 26) ∧ b1 < n ∧ H b8 = some (.cells (c26 a0) 26) ∧ b8 < n ∧ H b13 = some (.cells (encs c41 ([(api_Func.mk (⟨#[109, 111, 114, 101]⟩ : ByteArray) (IntKind.i64.wrap (1 + ((IntKind.i64.wrap a1).tmod 6))) (IntKind.i64.wrap (1 + ((IntKind.i64.wrap a1).tmod 6))) ([(api_Inst.mk 7 0 0 0)] : List api_Inst))] : List api_Func)) 41) ∧ b13 < n ∧ OwnC H 41 4 c41 o11 co11 x10 ∧ (∀ i, o11 = some i → i < n) ∧ b1 ≠ b8 ∧ b1 ≠ b13 ∧ b8 ≠ b13 ∧ (∀ i, o11 = some i → i ≠ b1) ∧ (∀ i, o11 = some i → i ≠ b8) ∧ (∀ i, o11 = some i → i ≠ b13)) ⟨n, by simp [ht', f2], by simp [ht', f5], by simp [ht', f7], by simp [ht', f8], by simp [ht', f49], by simp [ht'], (upd_ne _ _ (Nat.ne_of_lt l_b1)).trans b_b1, Nat.lt_succ_of_lt l_b1, (upd_ne _ _ (Nat.ne_of_lt l_b8)).trans b_b8, Nat.lt_succ_of_lt l_b8, upd_same _ _ _, Nat.lt_succ_self _, b_o11.mono (fun i hi => upd_ne _ _ (Nat.ne_of_lt (l_o11 i hi))), fun i hi => Nat.lt_succ_of_lt (l_o11 i hi), d_b1_b8, Nat.ne_of_lt l_b1, Nat.ne_of_lt l_b8, d_b1_o11, d_b8_o11, fun i hi => Nat.ne_of_lt (l_o11 i hi)⟩ ?_
   clear f2 f5 f7 f8 f49 f54 b_b1 l_b1 b_b8 l_b8 b_o11 l_o11 d_b1_b8 d_b1_o11 d_b8_o11 ht' t'
   rintro t H n ⟨b13, f2, f5, f7, f8, f49, f55, b_b1, l_b1, b_b8, l_b8, b_b13, l_b13, b_o11, l_o11, d_b1_b8, d_b1_b13, d_b8_b13, d_b1_o11, d_b8_o11, d_b13_o11⟩
   obtain ⟨x14, hx14, h⟩ := bnd h
   obtain ⟨r1x14, r2x14, r3x14⟩ := appM_ok hx14
   obtain ⟨o15, co15, H9, n9, e9, w9, le9, fr9, kp9⟩ := append_ownC (e := c41) (z := 4) (st := 22) T.t22 rfl T.t41 rfl (by decide) rfl (by decide) b_o11 l_o11 (y := .osl b13 0 ([(api_Func.mk (⟨#[109, 111, 114, 101]⟩ : ByteArray) (IntKind.i64.wrap (1 + ((IntKind.i64.wrap a1).tmod 6))) (IntKind.i64.wrap (1 + ((IntKind.i64.wrap a1).tmod 6))) ([(api_Inst.mk 7 0 0 0)] : List api_Inst))] : List api_Func).length (some ([(api_Func.mk (⟨#[109, 111, 114, 101]⟩ : ByteArray) (IntKind.i64.wrap (1 + ((IntKind.i64.wrap a1).tmod 6))) (IntKind.i64.wrap (1 + ((IntKind.i64.wrap a1).tmod 6))) ([(api_Inst.mk 7 0 0 0)] : List api_Inst))] : List api_Func).length)) ([(api_Func.mk (⟨#[109, 111, 114, 101]⟩ : ByteArray) (IntKind.i64.wrap (1 + ((IntKind.i64.wrap a1).tmod 6))) (IntKind.i64.wrap (1 + ((IntKind.i64.wrap a1).tmod 6))) ([(api_Inst.mk 7 0 0 0)] : List api_Inst))] : List api_Func) (elems_row b_b13 _) (all_encs ok41 _) r1x14 r2x14
   rw [r3x14] at e9 w9
   refine Stk.om ((mop_append T.t22 rfl).trans (by rw [show ev t (.tmp 49) = t 49 from rfl, f49]; rw [show ev t (.tmp 55) = t 55 from rfl, f55];  exact e9)) (by simp [f2, f5, f7, f8, f49, f55]) rfl (fun t' ht' => ?_)
   refine Stk.gen (fun t H n => t 2 = .own b1 0 ∧ t 5 = .ssl (encs c36 x5.1) x5.1.length false ∧ t 7 = .sc (.int .i64 (IntKind.i64.wrap (1 + ((IntKind.i64.wrap a1).tmod 6)))) ∧ t 8 = .own b8 0 ∧ t 56 = slc o15 x14.length co15 ∧ H b1 = some (.cells (c26 a0) 26) ∧ b1 < n ∧ H b8 = some (.cells (c26 a0) 26) ∧ b8 < n ∧ OwnC H 41 4 c41 o15 co15 x14 ∧ (∀ i, o15 = some i → i < n) ∧ b1 ≠ b8 ∧ (∀ i, o15 = some i → i ≠ b1) ∧ (∀ i, o15 = some i → i ≠ b8)) ⟨by simp [ht', f2], by simp [ht', f5], by simp [ht', f7], by simp [ht', f8], by simp [ht'], (kp9 _ l_b1 (fun e => d_b1_o11 _ e rfl)).trans b_b1, Nat.lt_of_lt_of_le l_b1 le9, (kp9 _ l_b8 (fun e => d_b8_o11 _ e rfl)).trans b_b8, Nat.lt_of_lt_of_le l_b8 le9, w9, fun i hi => (fr9 i hi).2, d_b1_b8, fun i hi e => by rcases (fr9 i hi).1 with g | g; exact d_b1_o11 i g e; have := l_b1; omega, fun i hi e => by rcases (fr9 i hi).1 with g | g; exact d_b8_o11 i g e; have := l_b8; omega⟩ ?_
   clear f2 f5 f7 f8 f49 f55 b_b1 l_b1 b_b8 l_b8 b_b13 l_b13 b_o11 l_o11 d_b1_b8 d_b1_b13 d_b8_b13 d_b1_o11 d_b8_o11 d_b13_o11 ht' t'
   rintro t H n ⟨f2, f5, f7, f8, f56, b_b1, l_b1, b_b8, l_b8, b_o15, l_o15, d_b1_b8, d_b1_o15, d_b8_o15⟩
   refine Stk.run 1 (fun t H n => t 2 = .own b1 0 ∧ t 5 = .ssl (encs c36 x5.1) x5.1.length false ∧ t 7 = .sc (.int .i64 (IntKind.i64.wrap (1 + ((IntKind.i64.wrap a1).tmod 6)))) ∧ t 8 = .own b8 0 ∧ t 56 = slc o15 x14.length co15 ∧ t 57 = .own b8 0 ∧ H b1 = some (.cells (c26 a0) 26) ∧ b1 < n ∧ H b8 = some (.cells (c26 a0) 26) ∧ b8 < n ∧ OwnC H 41 4 c41 o15 co15 x14 ∧ (∀ i, o15 = some i → i < n) ∧ b1 ≠ b8 ∧ (∀ i, o15 = some i → i ≠ b1) ∧ (∀ i, o15 = some i → i ≠ b8)) (fun J hJ => ?_) ?_
   ·simp [-splice, f2, f5, f7, f8, f56, b_b1, b_b8]
    exact hJ _ _ _ ⟨by simp [f2], by simp [f5], by simp [f7], by simp [f8], by simp [f56], by simp [-splice, f2, f5, f7, f8, f56, b_b1, b_b8], b_b1, l_b1, b_b8, l_b8, b_o15, l_o15, d_b1_b8, d_b1_o15, d_b8_o15⟩
   clear f2 f5 f7 f8 f56 b_b1 l_b1 b_b8 l_b8 b_o15 l_o15 d_b1_b8 d_b1_o15 d_b8_o15
   rintro t H n ⟨f2, f5, f7, f8, f56, f57, b_b1, l_b1, b_b8, l_b8, b_o15, l_o15, d_b1_b8, d_b1_o15, d_b8_o15⟩
   refine Stk.wkf trivial o15.toList 56 (.ssl (encs c41 x14) x14.length false) (by rw [f56]; exact .inr (.inr (view_ownC fr41 b_o15 (fun i hi => by simp [hi])))) (fun t' H' ht' hH' => ?_)
   refine Stk.gen (fun t H n => t 2 = .own b1 0 ∧ t 5 = .ssl (encs c36 x5.1) x5.1.length false ∧ t 7 = .sc (.int .i64 (IntKind.i64.wrap (1 + ((IntKind.i64.wrap a1).tmod 6)))) ∧ t 8 = .own b8 0 ∧ t 56 = .ssl (encs c41 x14) x14.length false ∧ t 57 = .own b8 0 ∧ H b1 = some (.cells (c26 a0) 26) ∧ b1 < n ∧ H b8 = some (.cells (c26 a0) 26) ∧ b8 < n ∧ b1 ≠ b8) ⟨by simp [ht', f2], by simp [ht', f5], by simp [ht', f7], by simp [ht', f8], by simp [ht', f56], by simp [ht', f57], (hH' _ (by simp; exact fun e => d_b1_o15 _ e rfl)).trans b_b1, l_b1, (hH' _ (by simp; exact fun e => d_b8_o15 _ e rfl)).trans b_b8, l_b8, d_b1_b8⟩ ?_
   clear f2 f5 f7 f8 f56 f57 b_b1 l_b1 b_b8 l_b8 b_o15 l_o15 d_b1_b8 d_b1_o15 d_b8_o15 hH' ht' t' H'
   rintro t H n ⟨f2, f5, f7, f8, f56, f57, b_b1, l_b1, b_b8, l_b8, d_b1_b8⟩
   refine Stk.om (mop_store (z := 1) rfl f57 b_b8 f56 rfl (by rw [len26]; decide) rfl (st_26_0_22 _ _)) (by simp [f2, f5, f7, f8, f56, f57]) rfl (fun t' ht' => ?_)
   refine Stk.gen (fun t H n => t 2 = .own b1 0 ∧ t 5 = .ssl (encs c36 x5.1) x5.1.length false ∧ t 7 = .sc (.int .i64 (IntKind.i64.wrap (1 + ((IntKind.i64.wrap a1).tmod 6)))) ∧ t 8 = .own b8 0 ∧ H b1 = some (.cells (c26 a0) 26) ∧ b1 < n ∧ H b8 = some (.cells (c26 ({ a0 with Funs := x14 })) 26) ∧ b8 < n ∧ b1 ≠ b8) ⟨by simp [ht', f2], by simp [ht', f5], by simp [ht', f7], by simp [ht', f8], (upd_ne _ _ d_b1_b8).trans b_b1, l_b1, upd_same _ _ _, l_b8, d_b1_b8⟩ ?_
   clear f2 f5 f7 f8 f56 f57 b_b1 l_b1 b_b8 l_b8 d_b1_b8 ht' t'
   rintro t H n ⟨f2, f5, f7, f8, b_b1, l_b1, b_b8, l_b8, d_b1_b8⟩
   refine Stk.on ?_
   refine Stk.sq ?_
   refine Stk.rg ?_
   refine Stk.om (mop_buildN (c := c51) (z := 1) T.t23 rfl T.t51 rfl (by decide) rfl (by decide) [] rfl (.nil)) (by simp [f2, f5, f7, f8]) rfl (fun t' ht' => ?_)
   refine Stk.gen (fun t H n => ∃ b16, t 2 = .own b1 0 ∧ t 5 = .ssl (encs c36 x5.1) x5.1.length false ∧ t 7 = .sc (.int .i64 (IntKind.i64.wrap (1 + ((IntKind.i64.wrap a1).tmod 6)))) ∧ t 8 = .own b8 0 ∧ t 58 = .osl b16 0 ([] : List (List Int)).length (some ([] : List (List Int)).length) ∧ H b1 = some (.cells (c26 a0) 26) ∧ b1 < n ∧ H b8 = some (.cells (c26 ({ a0 with Funs := x14 })) 26) ∧ b8 < n ∧ H b16 = some (.cells (encs c51 ([] : List (List Int))) 51) ∧ b16 < n ∧ b1 ≠ b8 ∧ b1 ≠ b16 ∧ b8 ≠ b16) ⟨n, by simp [ht', f2], by simp [ht', f5], by simp [ht', f7], by simp [ht', f8], by simp [ht'], (upd_ne _ _ (Nat.ne_of_lt l_b1)).trans b_b1, Nat.lt_succ_of_lt l_b1, (upd_ne _ _ (Nat.ne_of_lt l_b8)).trans b_b8, Nat.lt_succ_of_lt l_b8, upd_same _ _ _, Nat.lt_succ_self _, d_b1_b8, Nat.ne_of_lt l_b1, Nat.ne_of_lt l_b8⟩ ?_
   clear f2 f5 f7 f8 b_b1 l_b1 b_b8 l_b8 d_b1_b8 ht' t'
   rintro t H n ⟨b16, f2, f5, f7, f8, f58, b_b1, l_b1, b_b8, l_b8, b_b16, l_b16, d_b1_b8, d_b1_b16, d_b8_b16⟩
   refine Stk.run 2 (fun t H n => t 2 = .own b1 0 ∧ t 5 = .ssl (encs c36 x5.1) x5.1.length false ∧ t 7 = .sc (.int .i64 (IntKind.i64.wrap (1 + ((IntKind.i64.wrap a1).tmod 6)))) ∧ t 8 = .own b8 0 ∧ t 58 = .osl b16 0 ([] : List (List Int)).length (some ([] : List (List Int)).length) ∧ t 60 = .ssl (encs c51 a0.Texts) a0.Texts.length false ∧ H b1 = some (.cells (c26 a0) 26) ∧ b1 < n ∧ H b8 = some (.cells (c26 ({ a0 with Funs := x14 })) 26) ∧ b8 < n ∧ H b16 = some (.cells (encs c51 ([] : List (List Int))) 51) ∧ b16 < n ∧ b1 ≠ b8 ∧ b1 ≠ b16 ∧ b8 ≠ b16) (fun J hJ => ?_) ?_
   ·simp [-splice, f2, f5, f7, f8, f58, b_b1, b_b8, b_b16, ld_26_1_23]
    exact hJ _ _ _ ⟨by simp [f2], by simp [f5], by simp [f7], by simp [f8], by simp [f58], by simp [-splice, f2, f5, f7, f8, f58, b_b1, b_b8, b_b16, ld_26_1_23], b_b1, l_b1, b_b8, l_b8, b_b16, l_b16, d_b1_b8, d_b1_b16, d_b8_b16⟩
   clear f2 f5 f7 f8 f58 b_b1 l_b1 b_b8 l_b8 b_b16 l_b16 d_b1_b8 d_b1_b16 d_b8_b16
   rintro t H n ⟨f2, f5, f7, f8, f58, f60, b_b1, l_b1, b_b8, l_b8, b_b16, l_b16, d_b1_b8, d_b1_b16, d_b8_b16⟩
   obtain ⟨x17, hx17, h⟩ := bnd h
   obtain ⟨r1x17, r2x17, r3x17⟩ := appM_ok hx17
   obtain ⟨o18, co18, H9, n9, e9, w9, le9, fr9, kp9⟩ := append_ownC (e := c51) (z := 1) (st := 23) T.t23 rfl T.t51 rfl (by decide) rfl (by decide) (ownC_row b_b16) (fun i hi => by cases hi; exact l_b16) (y := .ssl (encs c51 a0.Texts) a0.Texts.length false) a0.Texts (elems_ssl) (all_encs ok51 _) r1x17 r2x17
   rw [r3x17] at e9 w9
   refine Stk.om ((mop_append T.t23 rfl).trans (by rw [show ev t (.tmp 58) = t 58 from rfl, f58]; rw [show ev t (.tmp 60) = t 60 from rfl, f60];  exact e9)) (by simp [f2, f5, f7, f8, f58, f60]) rfl (fun t' ht' => ?_)
   refine Stk.gen (fun t H n => t 2 = .own b1 0 ∧ t 5 = .ssl (encs c36 x5.1) x5.1.length false ∧ t 7 = .sc (.int .i64 (IntKind.i64.wrap (1 + ((IntKind.i64.wrap a1).tmod 6)))) ∧ t 8 = .own b8 0 ∧ t 61 = slc o18 x17.length co18 ∧ H b1 = some (.cells (c26 a0) 26) ∧ b1 < n ∧ H b8 = some (.cells (c26 ({ a0 with Funs := x14 })) 26) ∧ b8 < n ∧ OwnC H 51 1 c51 o18 co18 x17 ∧ (∀ i, o18 = some i → i < n) ∧ b1 ≠ b8 ∧ (∀ i, o18 = some i → i ≠ b1) ∧ (∀ i, o18 = some i → i ≠ b8)) ⟨by simp [ht', f2], by simp [ht', f5], by simp [ht', f7], by simp [ht', f8], by simp [ht'], (kp9 _ l_b1 (fun e => d_b1_b16 (Option.some.inj e).symm)).trans b_b1, Nat.lt_of_lt_of_le l_b1 le9, (kp9 _ l_b8 (fun e => d_b8_b16 (Option.some.inj e).symm)).trans b_b8, Nat.lt_of_lt_of_le l_b8 le9, w9, fun i hi => (fr9 i hi).2, d_b1_b8, fun i hi e => by rcases (fr9 i hi).1 with g | g; exact d_b1_b16 (by rw [← e]; exact (Option.some.inj g).symm); have := l_b1; omega, fun i hi e => by rcases (fr9 i hi).1 with g | g; exact d_b8_b16 (by rw [← e]; exact (Option.some.inj g).symm); have := l_b8; omega⟩ ?_
   clear f2 f5 f7 f8 f58 f60 b_b1 l_b1 b_b8 l_b8 b_b16 l_b16 d_b1_b8 d_b1_b16 d_b8_b16 ht' t'
   rintro t H n ⟨f2, f5, f7, f8, f61, b_b1, l_b1, b_b8, l_b8, b_o18, l_o18, d_b1_b8, d_b1_o18, d_b8_o18⟩
   refine Stk.om (mop_buildN (c := c5) (z := 1) T.t51 rfl T.t5 rfl (by decide) rfl (by decide) [109, 111, 114, 101] rfl (.cons rfl rfl rfl rfl rfl (by simp [length_encs]) (splice_next (c := c5) [] _ 109 rfl (by simp)) (.cons rfl rfl rfl rfl rfl (by simp [length_encs]) (splice_next (c := c5) [109] _ 111 rfl (by simp)) (.cons rfl rfl rfl rfl rfl (by simp [length_encs]) (splice_next (c := c5) [109, 111] _ 114 rfl (by simp)) (.cons rfl rfl rfl rfl rfl (by simp [length_encs]) (splice_next (c := c5) [109, 111, 114] _ 101 rfl (by simp)) (.nil)))))) (by simp [f2, f5, f7, f8, f61]) rfl (fun t' ht' => ?_)
   refine Stk.gen (fun t H n => ∃ b19, t 2 = .own b1 0 ∧ t 5 = .ssl (encs c36 x5.1) x5.1.length false ∧ t 7 = .sc (.int .i64 (IntKind.i64.wrap (1 + ((IntKind.i64.wrap a1).tmod 6)))) ∧ t 8 = .own b8 0 ∧ t 61 = slc o18 x17.length co18 ∧ t 62 = .osl b19 0 ([109, 111, 114, 101] : List Int).length (some ([109, 111, 114, 101] : List Int).length) ∧ H b1 = some (.cells (c26 a0) 26) ∧ b1 < n ∧ H b8 = some (.cells (c26 ({ a0 with Funs := x14 })) 26) ∧ b8 < n ∧ H b19 = some (.cells (encs c5 ([109, 111, 114, 101] : List Int)) 5) ∧ b19 < n ∧ OwnC H 51 1 c51 o18 co18 x17 ∧ (∀ i, o18 = some i → i < n) ∧ b1 ≠ b8 ∧ b1 ≠ b19 ∧ b8 ≠ b19 ∧ (∀ i, o18 = some i → i ≠ b1) ∧ (∀ i, o18 = some i → i ≠ b8) ∧ (∀ i, o18 = some i → i ≠ b19)) ⟨n, by simp [ht', f2], by simp [ht', f5], by simp [ht', f7], by simp [ht', f8], by simp [ht', f61], by simp [ht'], (upd_ne _ _ (Nat.ne_of_lt l_b1)).trans b_b1, Nat.lt_succ_of_lt l_b1, (upd_ne _ _ (Nat.ne_of_lt l_b8)).trans b_b8, Nat.lt_succ_of_lt l_b8, upd_same _ _ _, Nat.lt_succ_self _, b_o18.mono (fun i hi => upd_ne _ _ (Nat.ne_of_lt (l_o18 i hi))), fun i hi => Nat.lt_succ_of_lt (l_o18 i hi), d_b1_b8, Nat.ne_of_lt l_b1, Nat.ne_of_lt l_b8, d_b1_o18, d_b8_o18, fun i hi => Nat.ne_of_lt (l_o18 i hi)⟩ ?_
   clear f2 f5 f7 f8 f61 b_b1 l_b1 b_b8 l_b8 b_o18 l_o18 d_b1_b8 d_b1_o18 d_b8_o18 ht' t'
   rintro t H n ⟨b19, f2, f5, f7, f8, f61, f62, b_b1, l_b1, b_b8, l_b8, b_b19, l_b19, b_o18, l_o18, d_b1_b8, d_b1_b19, d_b8_b19, d_b1_o18, d_b8_o18, d_b19_o18⟩
   refine Stk.run 1 (fun t H n => t 2 = .own b1 0 ∧ t 5 = .ssl (encs c36 x5.1) x5.1.length false ∧ t 7 = .sc (.int .i64 (IntKind.i64.wrap (1 + ((IntKind.i64.wrap a1).tmod 6)))) ∧ t 8 = .own b8 0 ∧ t 61 = slc o18 x17.length co18 ∧ t 63 = .osl b19 0 ([109, 111, 114, 101] : List Int).length (some ([109, 111, 114, 101] : List Int).length) ∧ H b1 = some (.cells (c26 a0) 26) ∧ b1 < n ∧ H b8 = some (.cells (c26 ({ a0 with Funs := x14 })) 26) ∧ b8 < n ∧ H b19 = some (.cells (encs c5 ([109, 111, 114, 101] : List Int)) 5) ∧ b19 < n ∧ OwnC H 51 1 c51 o18 co18 x17 ∧ (∀ i, o18 = some i → i < n) ∧ b1 ≠ b8 ∧ b1 ≠ b19 ∧ b8 ≠ b19 ∧ (∀ i, o18 = some i → i ≠ b1) ∧ (∀ i, o18 = some i → i ≠ b8) ∧ (∀ i, o18 = some i → i ≠ b19)) (fun J hJ => ?_) ?_
   ·simp [-splice, f2, f5, f7, f8, f61, f62, b_b1, b_b8, b_b19]
    exact hJ _ _ _ ⟨by simp [f2], by simp [f5], by simp [f7], by simp [f8], by simp [f61], by simp [-splice, f2, f5, f7, f8, f61, f62, b_b1, b_b8, b_b19], b_b1, l_b1, b_b8, l_b8, b_b19, l_b19, b_o18, l_o18, d_b1_b8, d_b1_b19, d_b8_b19, d_b1_o18, d_b8_o18, d_b19_o18⟩
   clear f2 f5 f7 f8 f61 f62 b_b1 l_b1 b_b8 l_b8 b_b19 l_b19 b_o18 l_o18 d_b1_b8 d_b1_b19 d_b8_b19 d_b1_o18 d_b8_o18 d_b19_o18
   rintro t H n ⟨f2, f5, f7, f8, f61, f63, b_b1, l_b1, b_b8, l_b8, b_b19, l_b19, b_o18, l_o18, d_b1_b8, d_b1_b19, d_b8_b19, d_b1_o18, d_b8_o18, d_b19_o18⟩
   refine Stk.wkf trivial [b19] 63 (.ssl (encs c5 ([109, 111, 114, 101] : List Int)) ([109, 111, 114, 101] : List Int).length false) (by rw [f63]; exact .inr (.inr (view_row fr5 b_b19 (by simp) _))) (fun t' H' ht' hH' => ?_)
   refine Stk.gen (fun t H n => t 2 = .own b1 0 ∧ t 5 = .ssl (encs c36 x5.1) x5.1.length false ∧ t 7 = .sc (.int .i64 (IntKind.i64.wrap (1 + ((IntKind.i64.wrap a1).tmod 6)))) ∧ t 8 = .own b8 0 ∧ t 61 = slc o18 x17.length co18 ∧ t 63 = .ssl (encs c5 ([109, 111, 114, 101] : List Int)) ([109, 111, 114, 101] : List Int).length false ∧ H b1 = some (.cells (c26 a0) 26) ∧ b1 < n ∧ H b8 = some (.cells (c26 ({ a0 with Funs := x14 })) 26) ∧ b8 < n ∧ OwnC H 51 1 c51 o18 co18 x17 ∧ (∀ i, o18 = some i → i < n) ∧ b1 ≠ b8 ∧ (∀ i, o18 = some i → i ≠ b1) ∧ (∀ i, o18 = some i → i ≠ b8)) ⟨by simp [ht', f2], by simp [ht', f5], by simp [ht', f7], by simp [ht', f8], by simp [ht', f61], by simp [ht', f63], (hH' _ (by simp; exact d_b1_b19)).trans b_b1, l_b1, (hH' _ (by simp; exact d_b8_b19)).trans b_b8, l_b8, b_o18.mono (fun i hi => hH' i (by simp; exact d_b19_o18 i hi)), l_o18, d_b1_b8, d_b1_o18, d_b8_o18⟩ ?_
   clear f2 f5 f7 f8 f61 f63 b_b1 l_b1 b_b8 l_b8 b_b19 l_b19 b_o18 l_o18 d_b1_b8 d_b1_b19 d_b8_b19 d_b1_o18 d_b8_o18 d_b19_o18 hH' ht' t' H'
   rintro t H n ⟨f2, f5, f7, f8, f61, f63, b_b1, l_b1, b_b8, l_b8, b_o18, l_o18, d_b1_b8, d_b1_o18, d_b8_o18⟩
   refine Stk.om (mop_buildN (c := c51) (z := 1) T.t23 rfl T.t51 rfl (by decide) rfl (by decide) [([109, 111, 114, 101] : List Int)] rfl (.cons f63 rfl rfl rfl rfl (by simp [length_encs]) (splice_next (c := c51) [] _ ([109, 111, 114, 101] : List Int) rfl (by simp)) (.nil))) (by simp [f2, f5, f7, f8, f61, f63]) rfl (fun t' ht' => ?_)
   refine Stk.gen (fun t H n => ∃ b20, t 2 = .own b1 0 ∧ t 5 = .ssl (encs c36 x5.1) x5.1.length false ∧ t 7 = .sc (.int .i64 (IntKind.i64.wrap (1 + ((IntKind.i64.wrap a1).tmod 6)))) ∧ t 8 = .own b8 0 ∧ t 61 = slc o18 x17.length co18 ∧ t 64 = .osl b20 0 ([([109, 111, 114, 101] : List Int)] : List (List Int)).length (some ([([109, 111, 114, 101] : List Int)] : List (List Int)).length) ∧ H b1 = some (.cells (c26 a0) 26) ∧ b1 < n ∧ H b8 = some (.cells (c26 ({ a0 with Funs := x14 })) 26) ∧ b8 < n ∧ H b20 = some (.cells (encs c51 ([([109, 111, 114, 101] : List Int)] : List (List Int))) 51) ∧ b20 < n ∧ OwnC H 51 1 c51 o18 co18 x17 ∧ (∀ i, o18 = some i → i < n) ∧ b1 ≠ b8 ∧ b1 ≠ b20 ∧ b8 ≠ b20 ∧ (∀ i, o18 = some i → i ≠ b1) ∧ (∀ i, o18 = some i → i ≠ b8) ∧ (∀ i, o18 = some i → i ≠ b20)) ⟨n, by simp [ht', f2], by simp [ht', f5], by simp [ht', f7], by simp [ht', f8], by simp [ht', f61], by simp [ht'], (upd_ne _ _ (Nat.ne_of_lt l_b1)).trans b_b1, Nat.lt_succ_of_lt l_b1, (upd_ne _ _ (Nat.ne_of_lt l_b8)).trans b_b8, Nat.lt_succ_of_lt l_b8, upd_same _ _ _, Nat.lt_succ_self _, b_o18.mono (fun i hi => upd_ne _ _ (Nat.ne_of_lt (l_o18 i hi))), fun i hi => Nat.lt_succ_of_lt (l_o18 i hi), d_b1_b8, Nat.ne_of_lt l_b1, Nat.ne_of_lt l_b8, d_b1_o18, d_b8_o18, fun i hi => Nat.ne_of_lt (l_o18 i hi)⟩ ?_
   clear f2 f5 f7 f8 f61 f63 b_b1 l_b1 b_b8 l_b8 b_o18 l_o18 d_b1_b8 d_b1_o18 d_b8_o18 ht' t'
   rintro t H n ⟨b20, f2, f5, f7, f8, f61, f64, b_b1, l_b1, b_b8, l_b8, b_b20, l_b20, b_o18, l_o18, d_b1_b8, d_b1_b20, d_b8_b20, d_b1_o18, d_b8_o18, d_b20_o18⟩
   obtain ⟨x21, hx21, h⟩ := bnd h
   obtain ⟨r1x21, r2x21, r3x21⟩ := appM_ok hx21
   obtain ⟨o22, co22, H9, n9, e9, w9, le9, fr9, kp9⟩ := append_ownC (e := c51) (z := 1) (st := 23) T.t23 rfl T.t51 rfl (by decide) rfl (by decide) b_o18 l_o18 (y := .osl b20 0 ([([109, 111, 114, 101] : List Int)] : List (List Int)).length (some ([([109, 111, 114, 101] : List Int)] : List (List Int)).length)) ([([109, 111, 114, 101] : List Int)] : List (List Int)) (elems_row b_b20 _) (all_encs ok51 _) r1x21 r2x21
   rw [r3x21] at e9 w9
   refine Stk.om ((mop_append T.t23 rfl).trans (by rw [show ev t (.tmp 61) = t 61 from rfl, f61]; rw [show ev t (.tmp 64) = t 64 from rfl, f64];  exact e9)) (by simp [f2, f5, f7, f8, f61, f64]) rfl (fun t' ht' => ?_)
   refine Stk.gen (fun t H n => t 2 = .own b1 0 ∧ t 5 = .ssl (encs c36 x5.1) x5.1.length false ∧ t 7 = .sc (.int .i64 (IntKind.i64.wrap (1 + ((IntKind.i64.wrap a1).tmod 6)))) ∧ t 8 = .own b8 0 ∧ t 65 = slc o22 x21.length co22 ∧ H b1 = some (.cells (c26 a0) 26) ∧ b1 < n ∧ H b8 = some (.cells (c26 ({ a0 with Funs := x14 })) 26) ∧ b8 < n ∧ OwnC H 51 1 c51 o22 co22 x21 ∧ (∀ i, o22 = some i → i < n) ∧ b1 ≠ b8 ∧ (∀ i, o22 = some i → i ≠ b1) ∧ (∀ i, o22 = some i → i ≠ b8)) ⟨by simp [ht', f2], by simp [ht', f5], by simp [ht', f7], by simp [ht', f8], by simp [ht'], (kp9 _ l_b1 (fun e => d_b1_o18 _ e rfl)).trans b_b1, Nat.lt_of_lt_of_le l_b1 le9, (kp9 _ l_b8 (fun e => d_b8_o18 _ e rfl)).trans b_b8, Nat.lt_of_lt_of_le l_b8 le9, w9, fun i hi => (fr9 i hi).2, d_b1_b8, fun i hi e => by rcases (fr9 i hi).1 with g | g; exact d_b1_o18 i g e; have := l_b1; omega, fun i hi e => by rcases (fr9 i hi).1 with g | g; exact d_b8_o18 i g e; have := l_b8; omega⟩ ?_
   clear f2 f5 f7 f8 f61 f64 b_b1 l_b1 b_b8 l_b8 b_b20 l_b20 b_o18 l_o18 d_b1_b8 d_b1_b20 d_b8_b20 d_b1_o18 d_b8_o18 d_b20_o18 ht' t'
   rintro t H n ⟨f2, f5, f7, f8, f65, b_b1, l_b1, b_b8, l_b8, b_o22, l_o22, d_b1_b8, d_b1_o22, d_b8_o22⟩
   refine Stk.run 1 (fun t H n => t 2 = .own b1 0 ∧ t 5 = .ssl (encs c36 x5.1) x5.1.length false ∧ t 7 = .sc (.int .i64 (IntKind.i64.wrap (1 + ((IntKind.i64.wrap a1).tmod 6)))) ∧ t 8 = .own b8 0 ∧ t 65 = slc o22 x21.length co22 ∧ t 66 = .own b8 1 ∧ H b1 = some (.cells (c26 a0) 26) ∧ b1 < n ∧ H b8 = some (.cells (c26 ({ a0 with Funs := x14 })) 26) ∧ b8 < n ∧ OwnC H 51 1 c51 o22 co22 x21 ∧ (∀ i, o22 = some i → i < n) ∧ b1 ≠ b8 ∧ (∀ i, o22 = some i → i ≠ b1) ∧ (∀ i, o22 = some i → i ≠ b8)) (fun J hJ => ?_) ?_
   ·simp [-splice, f2, f5, f7, f8, f65, b_b1, b_b8]
    exact hJ _ _ _ ⟨by simp [f2], by simp [f5], by simp [f7], by simp [f8], by simp [f65], by simp [-splice, f2, f5, f7, f8, f65, b_b1, b_b8], b_b1, l_b1, b_b8, l_b8, b_o22, l_o22, d_b1_b8, d_b1_o22, d_b8_o22⟩
   clear f2 f5 f7 f8 f65 b_b1 l_b1 b_b8 l_b8 b_o22 l_o22 d_b1_b8 d_b1_o22 d_b8_o22
   rintro t H n ⟨f2, f5, f7, f8, f65, f66, b_b1, l_b1, b_b8, l_b8, b_o22, l_o22, d_b1_b8, d_b1_o22, d_b8_o22⟩
   refine Stk.wkf trivial o22.toList 65 (.ssl (encs c51 x21) x21.length false) (by rw [f65]; exact .inr (.inr (view_ownC fr51 b_o22 (fun i hi => by simp [hi])))) (fun t' H' ht' hH' => ?_)
   refine Stk.gen (fun t H n => t 2 = .own b1 0 ∧ t 5 = .ssl (encs c36 x5.1) x5.1.length false ∧ t 7 = .sc (.int .i64 (IntKind.i64.wrap (1 + ((IntKind.i64.wrap a1).tmod 6)))) ∧ t 8 = .own b8 0 ∧ t 65 = .ssl (encs c51 x21) x21.length false ∧ t 66 = .own b8 1 ∧ H b1 = some (.cells (c26 a0) 26) ∧ b1 < n ∧ H b8 = some (.cells (c26 ({ a0 with Funs := x14 })) 26) ∧ b8 < n ∧ b1 ≠ b8) ⟨by simp [ht', f2], by simp [ht', f5], by simp [ht', f7], by simp [ht', f8], by simp [ht', f65], by simp [ht', f66], (hH' _ (by simp; exact fun e => d_b1_o22 _ e rfl)).trans b_b1, l_b1, (hH' _ (by simp; exact fun e => d_b8_o22 _ e rfl)).trans b_b8, l_b8, d_b1_b8⟩ ?_
   clear f2 f5 f7 f8 f65 f66 b_b1 l_b1 b_b8 l_b8 b_o22 l_o22 d_b1_b8 d_b1_o22 d_b8_o22 hH' ht' t' H'
   rintro t H n ⟨f2, f5, f7, f8, f65, f66, b_b1, l_b1, b_b8, l_b8, d_b1_b8⟩
   refine Stk.om (mop_store (z := 1) rfl f66 b_b8 f65 rfl (by rw [len26]; decide) rfl (st_26_1_23 _ _)) (by simp [f2, f5, f7, f8, f65, f66]) rfl (fun t' ht' => ?_)
   refine Stk.gen (fun t H n => t 2 = .own b1 0 ∧ t 5 = .ssl (encs c36 x5.1) x5.1.length false ∧ t 7 = .sc (.int .i64 (IntKind.i64.wrap (1 + ((IntKind.i64.wrap a1).tmod 6)))) ∧ t 8 = .own b8 0 ∧ H b1 = some (.cells (c26 a0) 26) ∧ b1 < n ∧ H b8 = some (.cells (c26 ({ { a0 with Funs := x14 } with Texts := x21 })) 26) ∧ b8 < n ∧ b1 ≠ b8) ⟨by simp [ht', f2], by simp [ht', f5], by simp [ht', f7], by simp [ht', f8], (upd_ne _ _ d_b1_b8).trans b_b1, l_b1, upd_same _ _ _, l_b8, d_b1_b8⟩ ?_
   clear f2 f5 f7 f8 f65 f66 b_b1 l_b1 b_b8 l_b8 d_b1_b8 ht' t'
   rintro t H n ⟨f2, f5, f7, f8, b_b1, l_b1, b_b8, l_b8, d_b1_b8⟩
   refine Stk.on ?_
   refine Stk.sq ?_
   refine Stk.rg ?_
   refine Stk.om (mop_buildN (c := c47) (z := 1) T.t24 rfl T.t47 rfl (by decide) rfl (by decide) [] rfl (.nil)) (by simp [f2, f5, f7, f8]) rfl (fun t' ht' => ?_)
   refine Stk.gen (fun t H n => ∃ b23, t 2 = .own b1 0 ∧ t 5 = .ssl (encs c36 x5.1) x5.1.length false ∧ t 7 = .sc (.int .i64 (IntKind.i64.wrap (1 + ((IntKind.i64.wrap a1).tmod 6)))) ∧ t 8 = .own b8 0 ∧ t 67 = .osl b23 0 ([] : List (List Int)).length (some ([] : List (List Int)).length) ∧ H b1 = some (.cells (c26 a0) 26) ∧ b1 < n ∧ H b8 = some (.cells (c26 ({ { a0 with Funs := x14 } with Texts := x21 })) 26) ∧ b8 < n ∧ H b23 = some (.cells (encs c47 ([] : List (List Int))) 47) ∧ b23 < n ∧ b1 ≠ b8 ∧ b1 ≠ b23 ∧ b8 ≠ b23) ⟨n, by simp [ht', f2], by simp [ht', f5], by simp [ht', f7], by simp [ht', f8], by simp [ht'], (upd_ne _ _ (Nat.ne_of_lt l_b1)).trans b_b1, Nat.lt_succ_of_lt l_b1, (upd_ne _ _ (Nat.ne_of_lt l_b8)).trans b_b8, Nat.lt_succ_of_lt l_b8, upd_same _ _ _, Nat.lt_succ_self _, d_b1_b8, Nat.ne_of_lt l_b1, Nat.ne_of_lt l_b8⟩ ?_
   clear f2 f5 f7 f8 b_b1 l_b1 b_b8 l_b8 d_b1_b8 ht' t'
   rintro t H n ⟨b23, f2, f5, f7, f8, f67, b_b1, l_b1, b_b8, l_b8, b_b23, l_b23, d_b1_b8, d_b1_b23, d_b8_b23⟩
   refine Stk.run 2 (fun t H n => t 5 = .ssl (encs c36 x5.1) x5.1.length false ∧ t 7 = .sc (.int .i64 (IntKind.i64.wrap (1 + ((IntKind.i64.wrap a1).tmod 6)))) ∧ t 8 = .own b8 0 ∧ t 67 = .osl b23 0 ([] : List (List Int)).length (some ([] : List (List Int)).length) ∧ t 69 = .ssl (encs c47 a0.Tables) a0.Tables.length false ∧ H b8 = some (.cells (c26 ({ { a0 with Funs := x14 } with Texts := x21 })) 26) ∧ b8 < n ∧ H b23 = some (.cells (encs c47 ([] : List (List Int))) 47) ∧ b23 < n ∧ b8 ≠ b23) (fun J hJ => ?_) ?_
   ·simp [-splice, f2, f5, f7, f8, f67, b_b1, b_b8, b_b23, ld_26_2_24]
    exact hJ _ _ _ ⟨by simp [f5], by simp [f7], by simp [f8], by simp [f67], by simp [-splice, f2, f5, f7, f8, f67, b_b1, b_b8, b_b23, ld_26_2_24], b_b8, l_b8, b_b23, l_b23, d_b8_b23⟩
   clear f2 f5 f7 f8 f67 b_b1 l_b1 b_b8 l_b8 b_b23 l_b23 d_b1_b8 d_b1_b23 d_b8_b23
   rintro t H n ⟨f5, f7, f8, f67, f69, b_b8, l_b8, b_b23, l_b23, d_b8_b23⟩
   obtain ⟨x24, hx24, h⟩ := bnd h
   obtain ⟨r1x24, r2x24, r3x24⟩ := appM_ok hx24
   obtain ⟨o25, co25, H9, n9, e9, w9, le9, fr9, kp9⟩ := append_ownC (e := c47) (z := 1) (st := 24) T.t24 rfl T.t47 rfl (by decide) rfl (by decide) (ownC_row b_b23) (fun i hi => by cases hi; exact l_b23) (y := .ssl (encs c47 a0.Tables) a0.Tables.length false) a0.Tables (elems_ssl) (all_encs ok47 _) r1x24 r2x24
   rw [r3x24] at e9 w9
   refine Stk.om ((mop_append T.t24 rfl).trans (by rw [show ev t (.tmp 67) = t 67 from rfl, f67]; rw [show ev t (.tmp 69) = t 69 from rfl, f69];  exact e9)) (by simp [f5, f7, f8, f67, f69]) rfl (fun t' ht' => ?_)
   refine Stk.gen (fun t H n => t 5 = .ssl (encs c36 x5.1) x5.1.length false ∧ t 7 = .sc (.int .i64 (IntKind.i64.wrap (1 + ((IntKind.i64.wrap a1).tmod 6)))) ∧ t 8 = .own b8 0 ∧ t 70 = slc o25 x24.length co25 ∧ H b8 = some (.cells (c26 ({ { a0 with Funs := x14 } with Texts := x21 })) 26) ∧ b8 < n ∧ OwnC H 47 1 c47 o25 co25 x24 ∧ (∀ i, o25 = some i → i < n) ∧ (∀ i, o25 = some i → i ≠ b8)) ⟨by simp [ht', f5], by simp [ht', f7], by simp [ht', f8], by simp [ht'], (kp9 _ l_b8 (fun e => d_b8_b23 (Option.some.inj e).symm)).trans b_b8, Nat.lt_of_lt_of_le l_b8 le9, w9, fun i hi => (fr9 i hi).2, fun i hi e => by rcases (fr9 i hi).1 with g | g; exact d_b8_b23 (by rw [← e]; exact (Option.some.inj g).symm); have := l_b8; omega⟩ ?_
   clear f5 f7 f8 f67 f69 b_b8 l_b8 b_b23 l_b23 d_b8_b23 ht' t'
   rintro t H n ⟨f5, f7, f8, f70, b_b8, l_b8, b_o25, l_o25, d_b8_o25⟩
   refine Stk.om (mop_buildN (c := c3) (z := 1) T.t47 rfl T.t3 rfl (by decide) rfl (by decide) [0] rfl (.cons rfl rfl rfl rfl rfl (by simp [length_encs]) (splice_next (c := c3) [] _ 0 rfl (by simp)) (.nil))) (by simp [f5, f7, f8, f70]) rfl (fun t' ht' => ?_)
   refine Stk.gen (fun t H n => ∃ b26, t 5 = .ssl (encs c36 x5.1) x5.1.length false ∧ t 7 = .sc (.int .i64 (IntKind.i64.wrap (1 + ((IntKind.i64.wrap a1).tmod 6)))) ∧ t 8 = .own b8 0 ∧ t 70 = slc o25 x24.length co25 ∧ t 71 = .osl b26 0 ([0] : List Int).length (some ([0] : List Int).length) ∧ H b8 = some (.cells (c26 ({ { a0 with Funs := x14 } with Texts := x21 })) 26) ∧ b8 < n ∧ H b26 = some (.cells (encs c3 ([0] : List Int)) 3) ∧ b26 < n ∧ OwnC H 47 1 c47 o25 co25 x24 ∧ (∀ i, o25 = some i → i < n) ∧ b8 ≠ b26 ∧ (∀ i, o25 = some i → i ≠ b8) ∧ (∀ i, o25 = some i → i ≠ b26)) ⟨n, by simp [ht', f5], by simp [ht', f7], by simp [ht', f8], by simp [ht', f70], by simp [ht'], (upd_ne _ _ (Nat.ne_of_lt l_b8)).trans b_b8, Nat.lt_succ_of_lt l_b8, upd_same _ _ _, Nat.lt_succ_self _, b_o25.mono (fun i hi => upd_ne _ _ (Nat.ne_of_lt (l_o25 i hi))), fun i hi => Nat.lt_succ_of_lt (l_o25 i hi), Nat.ne_of_lt l_b8, d_b8_o25, fun i hi => Nat.ne_of_lt (l_o25 i hi)⟩ ?_
   clear f5 f7 f8 f70 b_b8 l_b8 b_o25 l_o25 d_b8_o25 ht' t'
   rintro t H n ⟨b26, f5, f7, f8, f70, f71, b_b8, l_b8, b_b26, l_b26, b_o25, l_o25, d_b8_b26, d_b8_o25, d_b26_o25⟩
   refine Stk.wkf trivial [b26] 71 (.ssl (encs c3 ([0] : List Int)) ([0] : List Int).length false) (by rw [f71]; exact .inr (.inr (view_row fr3 b_b26 (by simp) _))) (fun t' H' ht' hH' => ?_)
   refine Stk.gen (fun t H n => t 5 = .ssl (encs c36 x5.1) x5.1.length false ∧ t 7 = .sc (.int .i64 (IntKind.i64.wrap (1 + ((IntKind.i64.wrap a1).tmod 6)))) ∧ t 8 = .own b8 0 ∧ t 70 = slc o25 x24.length co25 ∧ t 71 = .ssl (encs c3 ([0] : List Int)) ([0] : List Int).length false ∧ H b8 = some (.cells (c26 ({ { a0 with Funs := x14 } with Texts := x21 })) 26) ∧ b8 < n ∧ OwnC H 47 1 c47 o25 co25 x24 ∧ (∀ i, o25 = some i → i < n) ∧ (∀ i, o25 = some i → i ≠ b8)) ⟨by simp [ht', f5], by simp [ht', f7], by simp [ht', f8], by simp [ht', f70], by simp [ht', f71], (hH' _ (by simp; exact d_b8_b26)).trans b_b8, l_b8, b_o25.mono (fun i hi => hH' i (by simp; exact d_b26_o25 i hi)), l_o25, d_b8_o25⟩ ?_
   clear f5 f7 f8 f70 f71 b_b8 l_b8 b_b26 l_b26 b_o25 l_o25 d_b8_b26 d_b8_o25 d_b26_o25 hH' ht' t' H'
   rintro t H n ⟨f5, f7, f8, f70, f71, b_b8, l_b8, b_o25, l_o25, d_b8_o25⟩
   refine Stk.om (mop_buildN (c := c47) (z := 1) T.t24 rfl T.t47 rfl (by decide) rfl (by decide) [([0] : List Int)] rfl (.cons f71 rfl rfl rfl rfl (by simp [length_encs]) (splice_next (c := c47) [] _ ([0] : List Int) rfl (by simp)) (.nil))) (by simp [f5, f7, f8, f70, f71]) rfl (fun t' ht' => ?_)
   refine Stk.gen (fun t H n => ∃ b27, t 5 = .ssl (encs c36 x5.1) x5.1.length false ∧ t 7 = .sc (.int .i64 (IntKind.i64.wrap (1 + ((IntKind.i64.wrap a1).tmod 6)))) ∧ t 8 = .own b8 0 ∧ t 70 = slc o25 x24.length co25 ∧ t 72 = .osl b27 0 ([([0] : List Int)] : List (List Int)).length (some ([([0] : List Int)] : List (List Int)).length) ∧ H b8 = some (.cells (c26 ({ { a0 with Funs := x14 } with Texts := x21 })) 26) ∧ b8 < n ∧ H b27 = some (.cells (encs c47 ([([0] : List Int)] : List (List Int))) 47) ∧ b27 < n ∧ OwnC H 47 1 c47 o25 co25 x24 ∧ (∀ i, o25 = some i → i < n) ∧ b8 ≠ b27 ∧ (∀ i, o25 = some i → i ≠ b8) ∧ (∀ i, o25 = some i → i ≠ b27)) ⟨n, by simp [ht', f5], by simp [ht', f7], by simp [ht', f8], by simp [ht', f70], by simp [ht'], (upd_ne _ _ (Nat.ne_of_lt l_b8)).trans b_b8, Nat.lt_succ_of_lt l_b8, upd_same _ _ _, Nat.lt_succ_self _, b_o25.mono (fun i hi => upd_ne _ _ (Nat.ne_of_lt (l_o25 i hi))), fun i hi => Nat.lt_succ_of_lt (l_o25 i hi), Nat.ne_of_lt l_b8, d_b8_o25, fun i hi => Nat.ne_of_lt (l_o25 i hi)⟩ ?_
   clear f5 f7 f8 f70 f71 b_b8 l_b8 b_o25 l_o25 d_b8_o25 ht' t'
   rintro t H n ⟨b27, f5, f7, f8, f70, f72, b_b8, l_b8, b_b27, l_b27, b_o25, l_o25, d_b8_b27, d_b8_o25, d_b27_o25⟩
   obtain ⟨x28, hx28, h⟩ := bnd h
   obtain ⟨r1x28, r2x28, r3x28⟩ := appM_ok hx28
   obtain ⟨o29, co29, H9, n9, e9, w9, le9, fr9, kp9⟩ := append_ownC (e := c47) (z := 1) (st := 24) T.t24 rfl T.t47 rfl (by decide) rfl (by decide) b_o25 l_o25 (y := .osl b27 0 ([([0] : List Int)] : List (List Int)).length (some ([([0] : List Int)] : List (List Int)).length)) ([([0] : List Int)] : List (List Int)) (elems_row b_b27 _) (all_encs ok47 _) r1x28 r2x28
   rw [r3x28] at e9 w9
   refine Stk.om ((mop_append T.t24 rfl).trans (by rw [show ev t (.tmp 70) = t 70 from rfl, f70]; rw [show ev t (.tmp 72) = t 72 from rfl, f72];  exact e9)) (by simp [f5, f7, f8, f70, f72]) rfl (fun t' ht' => ?_)
   refine Stk.gen (fun t H n => t 5 = .ssl (encs c36 x5.1) x5.1.length false ∧ t 7 = .sc (.int .i64 (IntKind.i64.wrap (1 + ((IntKind.i64.wrap a1).tmod 6)))) ∧ t 8 = .own b8 0 ∧ t 73 = slc o29 x28.length co29 ∧ H b8 = some (.cells (c26 ({ { a0 with Funs := x14 } with Texts := x21 })) 26) ∧ b8 < n ∧ OwnC H 47 1 c47 o29 co29 x28 ∧ (∀ i, o29 = some i → i < n) ∧ (∀ i, o29 = some i → i ≠ b8)) ⟨by simp [ht', f5], by simp [ht', f7], by simp [ht', f8], by simp [ht'], (kp9 _ l_b8 (fun e => d_b8_o25 _ e rfl)).trans b_b8, Nat.lt_of_lt_of_le l_b8 le9, w9, fun i hi => (fr9 i hi).2, fun i hi e => by rcases (fr9 i hi).1 with g | g; exact d_b8_o25 i g e; have := l_b8; omega⟩ ?_
   clear f5 f7 f8 f70 f72 b_b8 l_b8 b_b27 l_b27 b_o25 l_o25 d_b8_b27 d_b8_o25 d_b27_o25 ht' t'
   rintro t H n ⟨f5, f7, f8, f73, b_b8, l_b8, b_o29, l_o29, d_b8_o29⟩
   refine Stk.run 1 (fun t H n => t 5 = .ssl (encs c36 x5.1) x5.1.length false ∧ t 7 = .sc (.int .i64 (IntKind.i64.wrap (1 + ((IntKind.i64.wrap a1).tmod 6)))) ∧ t 8 = .own b8 0 ∧ t 73 = slc o29 x28.length co29 ∧ t 74 = .own b8 2 ∧ H b8 = some (.cells (c26 ({ { a0 with Funs := x14 } with Texts := x21 })) 26) ∧ b8 < n ∧ OwnC H 47 1 c47 o29 co29 x28 ∧ (∀ i, o29 = some i → i < n) ∧ (∀ i, o29 = some i → i ≠ b8)) (fun J hJ => ?_) ?_
   ·simp [-splice, f5, f7, f8, f73, b_b8]
    exact hJ _ _ _ ⟨by simp [f5], by simp [f7], by simp [f8], by simp [f73], by simp [-splice, f5, f7, f8, f73, b_b8], b_b8, l_b8, b_o29, l_o29, d_b8_o29⟩
   clear f5 f7 f8 f73 b_b8 l_b8 b_o29 l_o29 d_b8_o29
   rintro t H n ⟨f5, f7, f8, f73, f74, b_b8, l_b8, b_o29, l_o29, d_b8_o29⟩
   refine Stk.wkf trivial o29.toList 73 (.ssl (encs c47 x28) x28.length false) (by rw [f73]; exact .inr (.inr (view_ownC fr47 b_o29 (fun i hi => by simp [hi])))) (fun t' H' ht' hH' => ?_)
   refine Stk.gen (fun t H n => t 5 = .ssl (encs c36 x5.1) x5.1.length false ∧ t 7 = .sc (.int .i64 (IntKind.i64.wrap (1 + ((IntKind.i64.wrap a1).tmod 6)))) ∧ t 8 = .own b8 0 ∧ t 73 = .ssl (encs c47 x28) x28.length false ∧ t 74 = .own b8 2 ∧ H b8 = some (.cells (c26 ({ { a0 with Funs := x14 } with Texts := x21 })) 26) ∧ b8 < n) ⟨by simp [ht', f5], by simp [ht', f7], by simp [ht', f8], by simp [ht', f73], by simp [ht', f74], (hH' _ (by simp; exact fun e => d_b8_o29 _ e rfl)).trans b_b8, l_b8⟩ ?_
   clear f5 f7 f8 f73 f74 b_b8 l_b8 b_o29 l_o29 d_b8_o29 hH' ht' t' H'
   rintro t H n ⟨f5, f7, f8, f73, f74, b_b8, l_b8⟩
   refine Stk.om (mop_store (z := 1) rfl f74 b_b8 f73 rfl (by rw [len26]; decide) rfl (st_26_2_24 _ _)) (by simp [f5, f7, f8, f73, f74]) rfl (fun t' ht' => ?_)
   refine Stk.gen (fun t H n => t 5 = .ssl (encs c36 x5.1) x5.1.length false ∧ t 7 = .sc (.int .i64 (IntKind.i64.wrap (1 + ((IntKind.i64.wrap a1).tmod 6)))) ∧ t 8 = .own b8 0 ∧ H b8 = some (.cells (c26 ({ { { a0 with Funs := x14 } with Texts := x21 } with Tables := x28 })) 26) ∧ b8 < n) ⟨by simp [ht', f5], by simp [ht', f7], by simp [ht', f8], upd_same _ _ _, l_b8⟩ ?_
   clear f5 f7 f8 f73 f74 b_b8 l_b8 ht' t'
   rintro t H n ⟨f5, f7, f8, b_b8, l_b8⟩
   refine Stk.on ?_
   refine Stk.sq ?_
   refine Stk.rg ?_
   refine Stk.run 1 (fun t H n => t 5 = .ssl (encs c36 x5.1) x5.1.length false ∧ t 7 = .sc (.int .i64 (IntKind.i64.wrap (1 + ((IntKind.i64.wrap a1).tmod 6)))) ∧ t 76 = .agg (c26 ({ { { a0 with Funs := x14 } with Texts := x21 } with Tables := x28 }))) (fun J hJ => ?_) ?_
   ·simp [-splice, f5, f7, f8, b_b8, ld_26_0_26]
    exact hJ _ _ _ ⟨by simp [f5], by simp [f7], by simp [-splice, f5, f7, f8, b_b8, ld_26_0_26]⟩
   clear f5 f7 f8 b_b8 l_b8
   rintro t H n ⟨f5, f7, f76⟩
   obtain ⟨x30, hx30, h⟩ := bnd h
   refine Stk.cv (g := 8) (args := [.agg (c26 ({ { { a0 with Funs := x14 } with Texts := x21 } with Tables := x28 }))]) (args' := [.agg (c26 ({ { { a0 with Funs := x14 } with Texts := x21 } with Tables := x28 }))]) (v := .tup [.ssl (encs c36 x30.1) x30.1.length false, .sc (.int .i64 x30.2)]) [] (ok_flow_Check F _ _ hx30) (by simp [f5, f7, f76]) rfl rfl (by simp [f5, f7, f76]) (.cons (.free (by exact fr26 _)) (.nil)) (.inl ⟨rfl, by simp [free, freeL, freeL_encs fr36]⟩) (fun t' ht' => ?_)
   refine Stk.gen (fun t H n => t 5 = .ssl (encs c36 x5.1) x5.1.length false ∧ t 7 = .sc (.int .i64 (IntKind.i64.wrap (1 + ((IntKind.i64.wrap a1).tmod 6)))) ∧ t 77 = .tup [.ssl (encs c36 x30.1) x30.1.length false, .sc (.int .i64 x30.2)]) ⟨by simp [ht', f5], by simp [ht', f7], by simp [ht']⟩ ?_
   clear f5 f7 f76 ht' t'
   rintro t H n ⟨f5, f7, f77⟩
   refine Stk.run 5 (fun t H n => t 5 = .ssl (encs c36 x5.1) x5.1.length false ∧ t 7 = .sc (.int .i64 (IntKind.i64.wrap (1 + ((IntKind.i64.wrap a1).tmod 6)))) ∧ t 9 = .ssl (encs c36 x30.1) x30.1.length false ∧ t 10 = .sc (.int .i64 x30.2)) (fun J hJ => ?_) ?_
   ·simp [-splice, f5, f7, f77]
    exact hJ _ _ _ ⟨by simp [f5], by simp [f7], by simp [-splice, f5, f7, f77], by simp [-splice, f5, f7, f77]⟩
   clear f5 f7 f77
   rintro t H n ⟨f5, f7, f9, f10⟩
   refine Stk.on ?_
   refine Stk.sq ?_
   refine Stk.rg ?_
   refine Stk.run 3 (fun t H n => t 5 = .ssl (encs c36 x5.1) x5.1.length false ∧ t 7 = .sc (.int .i64 (IntKind.i64.wrap (1 + ((IntKind.i64.wrap a1).tmod 6)))) ∧ t 9 = .ssl (encs c36 x30.1) x30.1.length false ∧ t 82 = .sc (.bool (x30.2 == 0))) (fun J hJ => ?_) ?_
   ·simp [-splice, f5, f7, f9, f10]
    exact hJ _ _ _ ⟨by simp [f5], by simp [f7], by simp [f9], by simp [-splice, f5, f7, f9, f10]⟩
   clear f5 f7 f9 f10
   rintro t H n ⟨f5, f7, f9, f82⟩
   refine Stk.jo 7 (fun t H n => t 5 = .ssl (encs c36 x5.1) x5.1.length false ∧ t 7 = .sc (.int .i64 (IntKind.i64.wrap (1 + ((IntKind.i64.wrap a1).tmod 6)))) ∧ t 9 = .ssl (encs c36 x30.1) x30.1.length false ∧ t 89 = .sc (.bool ((x30.2 == 0) && ((x30.1.length : Int) == (IntKind.i64.wrap ((x5.1.length : Int) + 1)))))) (fun J4 hJ4 => ?_) ?_
   ·rcases Bool.eq_false_or_eq_true (x30.2 == 0) with hb4 | hb4
    ·rw [hb4] at f82
     refine Stk.run 7 (fun t H n => t 5 = .ssl (encs c36 x5.1) x5.1.length false ∧ t 7 = .sc (.int .i64 (IntKind.i64.wrap (1 + ((IntKind.i64.wrap a1).tmod 6)))) ∧ t 9 = .ssl (encs c36 x30.1) x30.1.length false ∧ t 89 = .sc (.bool ((x30.1.length : Int) == (IntKind.i64.wrap ((x5.1.length : Int) + 1))))) (fun J hJ => ?_) ?_
     ·simp [-splice, f5, f7, f9, f82]
      exact hJ _ _ _ ⟨by simp [f5], by simp [f7], by simp [f9], by simp [-splice, f5, f7, f9, f82]⟩
     clear f5 f7 f9 f82
     rintro t H n ⟨f5, f7, f9, f89⟩
     refine Stk.on ?_
     exact Stk.ln 0 (by decide) (hJ4 _ _ _ ⟨f5, f7, f9, f89.trans (congrArg (fun q => AV.sc (.bool q)) (by rw [hb4]; rfl))⟩)
    ·rw [hb4] at f82
     refine Stk.run 7 (fun t H n => t 5 = .ssl (encs c36 x5.1) x5.1.length false ∧ t 7 = .sc (.int .i64 (IntKind.i64.wrap (1 + ((IntKind.i64.wrap a1).tmod 6)))) ∧ t 9 = .ssl (encs c36 x30.1) x30.1.length false ∧ t 89 = .sc (.bool false)) (fun J hJ => ?_) ?_
     ·simp [-splice, f5, f7, f9, f82]
      exact hJ _ _ _ ⟨by simp [f5], by simp [f7], by simp [f9], by simp [-splice, f5, f7, f9, f82]⟩
     clear f5 f7 f9 f82
     rintro t H n ⟨f5, f7, f9, f89⟩
     refine Stk.on ?_
     exact Stk.ln 0 (by decide) (hJ4 _ _ _ ⟨f5, f7, f9, f89.trans (congrArg (fun q => AV.sc (.bool q)) (by rw [hb4]; rfl))⟩)
   clear f5 f7 f9 f82
   rintro t H n ⟨f5, f7, f9, f89⟩
   refine Stk.run 1 (fun t H n => t 5 = .ssl (encs c36 x5.1) x5.1.length false ∧ t 7 = .sc (.int .i64 (IntKind.i64.wrap (1 + ((IntKind.i64.wrap a1).tmod 6)))) ∧ t 9 = .ssl (encs c36 x30.1) x30.1.length false ∧ t 90 = .sc (.bool ((x30.2 == 0) && ((x30.1.length : Int) == (IntKind.i64.wrap ((x5.1.length : Int) + 1)))))) (fun J hJ => ?_) ?_
   ·simp [-splice, f5, f7, f9, f89]
    exact hJ _ _ _ ⟨by simp [f5], by simp [f7], by simp [f9], by simp [-splice, f5, f7, f9, f89]⟩
   clear f5 f7 f9 f89
   rintro t H n ⟨f5, f7, f9, f90⟩
   obtain ⟨K5, hK5, h⟩ := jnd h
   refine Stk.jo 7 (fun t H n => ∃ v31 : Bool, K5 v31 = some r ∧ t 5 = .ssl (encs c36 x5.1) x5.1.length false ∧ t 7 = .sc (.int .i64 (IntKind.i64.wrap (1 + ((IntKind.i64.wrap a1).tmod 6)))) ∧ t 9 = .ssl (encs c36 x30.1) x30.1.length false ∧ t 97 = .sc (.bool v31)) (fun J5 hJ5 => ?_) ?_
   ·rcases Bool.eq_false_or_eq_true ((x30.2 == 0) && ((x30.1.length : Int) == (IntKind.i64.wrap ((x5.1.length : Int) + 1)))) with hb5 | hb5
    ·rw [hb5] at f90
     replace h := cT hb5 h
     refine Stk.run 4 (fun t H n => t 5 = .ssl (encs c36 x5.1) x5.1.length false ∧ t 7 = .sc (.int .i64 (IntKind.i64.wrap (1 + ((IntKind.i64.wrap a1).tmod 6)))) ∧ t 9 = .ssl (encs c36 x30.1) x30.1.length false ∧ t 90 = .sc (.bool true) ∧ t 91 = .ssl (encs c36 x5.1) x5.1.length false ∧ t 92 = .ssl (encs c36 x30.1) x30.1.length false ∧ t 94 = .sc (.int .i64 (x5.1.length : Int))) (fun J hJ => ?_) ?_
     ·simp [-splice, f5, f7, f9, f90]
      exact hJ _ _ _ ⟨by simp [f5], by simp [f7], by simp [f9], by simp [f90], by simp [-splice, f5, f7, f9, f90], by simp [-splice, f5, f7, f9, f90], by simp [-splice, f5, f7, f9, f90]⟩
     clear f5 f7 f9 f90
     rintro t H n ⟨f5, f7, f9, f90, f91, f92, f94⟩
     obtain ⟨x32, hx32, h⟩ := bnd h
     refine Stk.ov (vop_sub (c := c36) (z := 1) (l := 0) (h := (x5.1.length : Int)) T.t29 rfl T.t36 rfl f92 (.inl ⟨rfl, rfl⟩) (.inr ⟨_, _, rfl, f94⟩) hx32) (by simp [f5, f7, f9, f90, f91, f92, f94]) rfl (fun t' ht' => ?_)
     refine Stk.gen (fun t H n => t 5 = .ssl (encs c36 x5.1) x5.1.length false ∧ t 7 = .sc (.int .i64 (IntKind.i64.wrap (1 + ((IntKind.i64.wrap a1).tmod 6)))) ∧ t 9 = .ssl (encs c36 x30.1) x30.1.length false ∧ t 90 = .sc (.bool true) ∧ t 91 = .ssl (encs c36 x5.1) x5.1.length false ∧ t 95 = .ssl (encs c36 x32) x32.length false) ⟨by simp [ht', f5], by simp [ht', f7], by simp [ht', f9], by simp [ht', f90], by simp [ht', f91], by simp [ht']⟩ ?_
     clear f5 f7 f9 f90 f91 f92 f94 ht' t'
     rintro t H n ⟨f5, f7, f9, f90, f91, f95⟩
     obtain ⟨x33, hx33, h⟩ := bnd h
     refine Stk.cv (g := 10) (args := [.ssl (encs c36 x5.1) x5.1.length false, .ssl (encs c36 x32) x32.length false]) (args' := [.ssl (encs c36 x5.1) x5.1.length false, .ssl (encs c36 x32) x32.length false]) (v := .sc (.bool x33)) [] (ok_R21_Same F _ _ _ hx33) (by simp [f5, f7, f9, f90, f91, f95]) rfl rfl (by simp [f5, f7, f9, f90, f91, f95]) (.cons (.free (freeL_encs fr36 _)) (.cons (.free (freeL_encs fr36 _)) (.nil))) (.inl ⟨rfl, rfl⟩) (fun t' ht' => ?_)
     refine Stk.gen (fun t H n => t 5 = .ssl (encs c36 x5.1) x5.1.length false ∧ t 7 = .sc (.int .i64 (IntKind.i64.wrap (1 + ((IntKind.i64.wrap a1).tmod 6)))) ∧ t 9 = .ssl (encs c36 x30.1) x30.1.length false ∧ t 90 = .sc (.bool true) ∧ t 96 = .sc (.bool x33)) ⟨by simp [ht', f5], by simp [ht', f7], by simp [ht', f9], by simp [ht', f90], by simp [ht']⟩ ?_
     clear f5 f7 f9 f90 f91 f95 ht' t'
     rintro t H n ⟨f5, f7, f9, f90, f96⟩
     refine Stk.run 1 (fun t H n => t 5 = .ssl (encs c36 x5.1) x5.1.length false ∧ t 7 = .sc (.int .i64 (IntKind.i64.wrap (1 + ((IntKind.i64.wrap a1).tmod 6)))) ∧ t 9 = .ssl (encs c36 x30.1) x30.1.length false ∧ t 97 = .sc (.bool x33)) (fun J hJ => ?_) ?_
     ·simp [-splice, f5, f7, f9, f90, f96]
      exact hJ _ _ _ ⟨by simp [f5], by simp [f7], by simp [f9], by simp [-splice, f5, f7, f9, f90, f96]⟩
     clear f5 f7 f9 f90 f96
     rintro t H n ⟨f5, f7, f9, f97⟩
     refine Stk.on ?_
     exact Stk.ln 0 (by decide) (hJ5 _ _ _ ⟨x33, h, f5, f7, f9, f97⟩)
    ·rw [hb5] at f90
     replace h := cF hb5 h
     refine Stk.run 7 (fun t H n => t 5 = .ssl (encs c36 x5.1) x5.1.length false ∧ t 7 = .sc (.int .i64 (IntKind.i64.wrap (1 + ((IntKind.i64.wrap a1).tmod 6)))) ∧ t 9 = .ssl (encs c36 x30.1) x30.1.length false ∧ t 97 = .sc (.bool false)) (fun J hJ => ?_) ?_
     ·simp [-splice, f5, f7, f9, f90]
      exact hJ _ _ _ ⟨by simp [f5], by simp [f7], by simp [f9], by simp [-splice, f5, f7, f9, f90]⟩
     clear f5 f7 f9 f90
     rintro t H n ⟨f5, f7, f9, f97⟩
     refine Stk.on ?_
     exact Stk.ln 0 (by decide) (hJ5 _ _ _ ⟨false, h, f5, f7, f9, f97⟩)
   clear h f5 f7 f9 f90
   rintro t H n ⟨v31, h, f5, f7, f9, f97⟩
   subst hK5
   refine Stk.run 1 (fun t H n => t 5 = .ssl (encs c36 x5.1) x5.1.length false ∧ t 7 = .sc (.int .i64 (IntKind.i64.wrap (1 + ((IntKind.i64.wrap a1).tmod 6)))) ∧ t 9 = .ssl (encs c36 x30.1) x30.1.length false ∧ t 98 = .sc (.bool v31)) (fun J hJ => ?_) ?_
   ·simp [-splice, f5, f7, f9, f97]
    exact hJ _ _ _ ⟨by simp [f5], by simp [f7], by simp [f9], by simp [-splice, f5, f7, f9, f97]⟩
   clear f5 f7 f9 f97
   rintro t H n ⟨f5, f7, f9, f98⟩
   obtain ⟨K6, hK6, h⟩ := jnd h
   refine Stk.jo 9 (fun t H n => ∃ v34 : Bool, K6 v34 = some r ∧ t 107 = .sc (.bool v34)) (fun J6 hJ6 => ?_) ?_
   ·rcases Bool.eq_false_or_eq_true v31 with hb6 | hb6
    ·rw [hb6] at f98
     replace h := cT hb6 h
     obtain ⟨x35, hx35, h⟩ := bnd h
     obtain ⟨i0x35, i1x35, i2x35, _⟩ := idx_ok hx35
     have ex35_0_36 : partOf T.T 36 (encs c36 x30.1) (x5.1.length) = some (.ssl (encs c42 x35) x35.length false) := by
       have e0 := part_elem0 (e := c36) (z := 1) (T := T.T) (ty := 36) T.t36 (by decide) (by decide) hx35 0 (by decide)
       (try simp only [Nat.mul_one, Nat.add_zero, Int.toNat_natCast] at e0)
       exact e0.trans rfl
     refine Stk.run 5 (fun t H n => t 7 = .sc (.int .i64 (IntKind.i64.wrap (1 + ((IntKind.i64.wrap a1).tmod 6)))) ∧ t 98 = .sc (.bool true) ∧ t 103 = .ssl (encs c42 x35) x35.length false) (fun J hJ => ?_) ?_
     ·simp [-splice, f5, f7, f9, f98, i0x35, i1x35, pd36, ex35_0_36]
      exact hJ _ _ _ ⟨by simp [f7], by simp [f98], by simp [-splice, f5, f7, f9, f98, i0x35, i1x35, pd36, ex35_0_36]⟩
     clear f5 f7 f9 f98
     rintro t H n ⟨f7, f98, f103⟩
     obtain ⟨x36, hx36, h⟩ := bnd h
     refine Stk.cv (g := 11) (args := [.ssl (encs c42 x35) x35.length false]) (args' := [.ssl (encs c42 x35) x35.length false]) (v := .sc (.int .i64 x36)) [] (ok_flow_Height F _ _ hx36) (by simp [f7, f98, f103]) rfl rfl (by simp [f7, f98, f103]) (.cons (.free (freeL_encs fr42 _)) (.nil)) (.inl ⟨rfl, rfl⟩) (fun t' ht' => ?_)
     refine Stk.gen (fun t H n => t 7 = .sc (.int .i64 (IntKind.i64.wrap (1 + ((IntKind.i64.wrap a1).tmod 6)))) ∧ t 98 = .sc (.bool true) ∧ t 104 = .sc (.int .i64 x36)) ⟨by simp [ht', f7], by simp [ht', f98], by simp [ht']⟩ ?_
     clear f7 f98 f103 ht' t'
     rintro t H n ⟨f7, f98, f104⟩
     refine Stk.run 3 (fun t H n => t 107 = .sc (.bool (x36 == (IntKind.i64.wrap (1 + ((IntKind.i64.wrap a1).tmod 6)))))) (fun J hJ => ?_) ?_
     ·simp [-splice, f7, f98, f104]
      exact hJ _ _ _ (by simp [-splice, f7, f98, f104])
     clear f7 f98 f104
     rintro t H n f107
     refine Stk.on ?_
     exact Stk.ln 0 (by decide) (hJ6 _ _ _ ⟨(x36 == (IntKind.i64.wrap (1 + ((IntKind.i64.wrap a1).tmod 6)))), h, f107⟩)
    ·rw [hb6] at f98
     replace h := cF hb6 h
     refine Stk.run 9 (fun t H n => t 107 = .sc (.bool false)) (fun J hJ => ?_) ?_
     ·simp [-splice, f5, f7, f9, f98]
      exact hJ _ _ _ (by simp [-splice, f5, f7, f9, f98])
     clear f5 f7 f9 f98
     rintro t H n f107
     refine Stk.on ?_
     exact Stk.ln 0 (by decide) (hJ6 _ _ _ ⟨false, h, f107⟩)
   clear h f5 f7 f9 f98
   rintro t H n ⟨v34, h, f107⟩
   subst hK6
   refine Stk.run 1 (fun t H n => t 108 = .sc (.bool v34)) (fun J hJ => ?_) ?_
   ·simp [-splice, f107]
    exact hJ _ _ _ (by simp [-splice, f107])
   clear f107
   rintro t H n f108
   obtain ⟨K7, hK7, h⟩ := jnd h
   refine Stk.jo 2 (fun t H n => ∃ v37 : Bool, K7 v37 = some r ∧ t 110 = .sc (.bool v37)) (fun J7 hJ7 => ?_) ?_
   ·rcases Bool.eq_false_or_eq_true v34 with hb7 | hb7
    ·rw [hb7] at f108
     replace h := cT hb7 h
     obtain ⟨x38, hx38, h⟩ := bnd h
     refine Stk.cv (g := 7) (args := []) (args' := []) (v := .sc (.bool x38)) [] (ok_L21_awake F  _ hx38) (by simp [f108]) rfl rfl (by simp [f108]) (.nil) (.inl ⟨rfl, rfl⟩) (fun t' ht' => ?_)
     refine Stk.gen (fun t H n => t 108 = .sc (.bool true) ∧ t 109 = .sc (.bool x38)) ⟨by simp [ht', f108], by simp [ht']⟩ ?_
     clear f108 ht' t'
     rintro t H n ⟨f108, f109⟩
     refine Stk.run 1 (fun t H n => t 110 = .sc (.bool x38)) (fun J hJ => ?_) ?_
     ·simp [-splice, f108, f109]
      exact hJ _ _ _ (by simp [-splice, f108, f109])
     clear f108 f109
     rintro t H n f110
     refine Stk.on ?_
     exact Stk.ln 0 (by decide) (hJ7 _ _ _ ⟨x38, h, f110⟩)
    ·rw [hb7] at f108
     replace h := cF hb7 h
     refine Stk.run 2 (fun t H n => t 110 = .sc (.bool false)) (fun J hJ => ?_) ?_
     ·simp [-splice, f108]
      exact hJ _ _ _ (by simp [-splice, f108])
     clear f108
     rintro t H n f110
     refine Stk.on ?_
     exact Stk.ln 0 (by decide) (hJ7 _ _ _ ⟨false, h, f110⟩)
   clear h f108
   rintro t H n ⟨v37, h, f110⟩
   subst hK7
   refine Stk.run 1 (fun t H n => t 4 = .sc (.bool v37)) (fun J hJ => ?_) ?_
   ·simp [-splice, f110]
    exact hJ _ _ _ (by simp [-splice, f110])
   clear f110
   rintro t H n f4
   refine Stk.on ?_
   refine Stk.rt ?_
   have hq := Option.some.inj h; subst hq
   exact (hr _ _ _ (.sc (.bool v37)) ([]) (by simp [f4]) (.inr (.inr (.free (rfl))))).1
end Go.Proofs.Ytcdafogfmijcpaa.M
