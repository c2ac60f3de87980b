/-
 The functions come to them.
-/
import Derived.Test.YtcdafogfmijcpaaFsM
import Derived.Test.YtcdafogfmijcpaaFsWJ
namespace Go.Proofs.Ytcdafogfmijcpaa.M
open Go.Proofs.YtcdafogfmijcpaaW.Ah Go.Proofs.Ytcdafogfmijcpaa
set_option linter.unusedVariables false
set_option linter.unusedSimpArgs false
set_option maxRecDepth 8000
attribute [local simp] T.t3 T.t4 T.t22 T.t26 T.t29 T.t30 T.t36 T.t39 T.t41 T.t42 T.t44 List.range List.range.loop
attribute [-simp] appendAV fillAV
theorem ok_flow_Check (F : Nat) (a0 : api_Code) (r : List (List (List Bool)) × Int) (h : flow_Check F a0 = some r) : RunF Try.prog T.T 8 [.agg (c26 a0)] (.tup [.ssl (encs c36 r.1) r.1.length false, .sc (.int .i64 r.2)]) := Flo.flow_Check_run a0 r h

theorem ok_flow_Height (F : Nat) (a0 : (List (List Bool))) (r : Int) (h : flow_Height F a0 = some r) : RunF Try.prog T.T 11 [.ssl (encs c42 a0) a0.length false] (.sc (.int .i64 r)) := by
 rw [flow_Height] at h
 refine RunF.z Try.func11 rfl rfl rfl rfl rfl (fun C hr => ?_)
 refine Stk.gen (fun t H n => t 0 = .ssl (encs c42 a0) a0.length false) (by simp) ?_
 rintro t H n f0
 refine Stk.sq ?_
 refine Stk.rg ?_
 refine Stk.run 1 (fun t H n => t 0 = .ssl (encs c42 a0) a0.length false) (fun J hJ => ?_) ?_
 ·simp [-splice, f0]
  exact hJ _ _ _ (by simp [f0])
 clear f0
 rintro t H n f0
 refine Stk.on ?_
 refine Stk.sq ?_
 refine Stk.rg ?_
 refine Stk.run 1 (fun t H n => t 0 = .ssl (encs c42 a0) a0.length false ∧ t 3 = .sc (.int .i64 0)) (fun J hJ => ?_) ?_
 ·simp [-splice, f0]
  exact hJ _ _ _ ⟨by simp [f0], by simp [-splice, f0]⟩
 clear f0
 rintro t H n ⟨f0, f3⟩
 refine Stk.on ?_
 refine Stk.sq ?_
 refine Stk.sq ?_
 refine Stk.rg ?_
 refine Stk.run 3 (fun t H n => t 3 = .sc (.int .i64 0) ∧ t 6 = .ssl (encs c42 a0) a0.length false ∧ t 7 = .sc (.int .i64 (a0.length : Int)) ∧ t 8 = .sc (.int .i64 0)) (fun J hJ => ?_) ?_
 ·simp [-splice, f0, f3]
  exact hJ _ _ _ ⟨by simp [f3], by simp [-splice, f0, f3], by simp [-splice, f0, f3], by simp [-splice, f0, f3]⟩
 clear f0 f3
 rintro t H n ⟨f3, f6, f7, f8⟩
 refine Stk.on ?_
 refine Stk.bk ?_
 refine Stk.lo (fun μ t H n => ∃ v1 : Int, ∃ v2 : Int, flow_Height_L0 F a0 μ v1 v2 = some r ∧ t 3 = .sc (.int .i64 v1) ∧ t 6 = .ssl (encs c42 a0) a0.length false ∧ t 7 = .sc (.int .i64 (a0.length : Int)) ∧ t 8 = .sc (.int .i64 v2)) F ⟨0, 0, h, f3, f6, f7, f8⟩ ?_
 clear h f3 f6 f7 f8
 rintro J1 hJ1 μ t H n ⟨v1, v2, h, f3, f6, f7, f8⟩
 cases μ with
 | zero => exact absurd h (by simp [flow_Height_L0])
 | succ μ =>
 rw [flow_Height_L0] at h
 refine Stk.sq ?_
 refine Stk.rg ?_
 refine Stk.run 1 (fun t H n => t 3 = .sc (.int .i64 v1) ∧ t 6 = .ssl (encs c42 a0) a0.length false ∧ t 7 = .sc (.int .i64 (a0.length : Int)) ∧ t 8 = .sc (.int .i64 v2) ∧ t 9 = .sc (.bool (decide (v2 < (a0.length : Int))))) (fun J hJ => ?_) ?_
 ·simp [-splice, f3, f6, f7, f8]
  exact hJ _ _ _ ⟨by simp [f3], by simp [f6], by simp [f7], by simp [f8], by simp [-splice, f3, f6, f7, f8]⟩
 clear f3 f6 f7 f8
 rintro t H n ⟨f3, f6, f7, f8, f9⟩
 refine Stk.on ?_
 refine Stk.sq ?_
 refine Stk.cond (decide (v2 < (a0.length : Int))) (by exact f9) (fun hb5 => ?_) (fun hb5 => ?_)
 ·have h := cT hb5 h
  refine Stk.sk ?_
  refine Stk.sq ?_
  refine Stk.bk ?_
  refine Stk.sq ?_
  refine Stk.rg ?_
  obtain ⟨x6, hx6, h⟩ := bnd h
  obtain ⟨i0x6, i1x6, i2x6, _⟩ := idx_ok hx6
  have ex6_0_42 : partOf T.T 42 (encs c42 a0) (v2.toNat) = some (.ssl (encs c4 x6) x6.length false) := by
    have e0 := part_elem0 (e := c42) (z := 1) (T := T.T) (ty := 42) T.t42 (by decide) (by decide) hx6 0 (by decide)
    (try simp only [Nat.mul_one, Nat.add_zero] at e0)
    exact e0.trans rfl
  refine Stk.run 3 (fun t H n => t 3 = .sc (.int .i64 v1) ∧ t 5 = .ssl (encs c4 x6) x6.length false ∧ t 6 = .ssl (encs c42 a0) a0.length false ∧ t 7 = .sc (.int .i64 (a0.length : Int)) ∧ t 8 = .sc (.int .i64 v2)) (fun J hJ => ?_) ?_
  ·simp [-splice, f3, f6, f7, f8, f9, i0x6, i1x6, pd42, ex6_0_42]
   exact hJ _ _ _ ⟨by simp [f3], by simp [-splice, f3, f6, f7, f8, f9, i0x6, i1x6, pd42, ex6_0_42], by simp [f6], by simp [f7], by simp [f8]⟩
  clear f3 f6 f7 f8 f9
  rintro t H n ⟨f3, f5, f6, f7, f8⟩
  refine Stk.on ?_
  refine Stk.rg ?_
  refine Stk.run 5 (fun t H n => t 3 = .sc (.int .i64 (if v1 < (x6.length : Int) then (x6.length : Int) else v1)) ∧ t 6 = .ssl (encs c42 a0) a0.length false ∧ t 7 = .sc (.int .i64 (a0.length : Int)) ∧ t 8 = .sc (.int .i64 v2)) (fun J hJ => ?_) ?_
  ·simp [-splice, f3, f5, f6, f7, f8]
   exact hJ _ _ _ ⟨by simp [-splice, f3, f5, f6, f7, f8], by simp [f6], by simp [f7], by simp [f8]⟩
  clear f3 f5 f6 f7 f8
  rintro t H n ⟨f3, f6, f7, f8⟩
  refine Stk.on ?_
  refine Stk.bn ?_
  refine Stk.rg ?_
  refine Stk.run 2 (fun t H n => t 3 = .sc (.int .i64 (if v1 < (x6.length : Int) then (x6.length : Int) else v1)) ∧ t 6 = .ssl (encs c42 a0) a0.length false ∧ t 7 = .sc (.int .i64 (a0.length : Int)) ∧ t 8 = .sc (.int .i64 (IntKind.i64.wrap (v2 + 1)))) (fun J hJ => ?_) ?_
  ·simp [-splice, f3, f6, f7, f8]
   exact hJ _ _ _ ⟨by simp [f3], by simp [f6], by simp [f7], by simp [-splice, f3, f6, f7, f8]⟩
  clear f3 f6 f7 f8
  rintro t H n ⟨f3, f6, f7, f8⟩
  refine Stk.on ?_
  exact Stk.ln μ (Nat.lt_succ_self _) (hJ1 _ _ _ _ ⟨(if v1 < (x6.length : Int) then (x6.length : Int) else v1), (IntKind.i64.wrap (v2 + 1)), h, f3, f6, f7, f8⟩)
 ·have h := cF hb5 h
  refine Stk.ex rfl ?_
  refine Stk.sq ?_
  refine Stk.rg ?_
  refine Stk.run 2 (fun t H n => t 2 = .sc (.int .i64 v1)) (fun J hJ => ?_) ?_
  ·simp [-splice, f3, f6, f7, f8, f9]
   exact hJ _ _ _ (by simp [-splice, f3, f6, f7, f8, f9])
  clear f3 f6 f7 f8 f9
  rintro t H n f2
  refine Stk.on ?_
  refine Stk.rt ?_
  have hq := Option.some.inj h; subst hq
  exact (hr _ _ _ (.sc (.int .i64 v1)) ([]) (by simp [f2]) (.inr (.inr (.free (rfl))))).1
theorem ok_L21_awake (F : Nat)  (r : Bool) (h : L21_awake F  = some r) : RunF Try.prog T.T 7 [] (.sc (.bool r)) := by
 rw [L21_awake] at h
 refine RunF.z Try.func7 rfl rfl rfl rfl rfl (fun C hr => ?_)
 refine Stk.gen (fun t H n => True) trivial ?_
 rintro t H n -
 refine Stk.sq ?_
 refine Stk.rg ?_
 refine Stk.run 1 (fun t H n => True) (fun J hJ => ?_) ?_
 ·simp [-splice, ]
  exact hJ _ _ _ ⟨⟩
 rintro t H n _
 refine Stk.on ?_
 refine Stk.sq ?_
 refine Stk.rg ?_
 refine Stk.ov (vop_build T.t44 rfl rfl (cs := c44 (api_Inst.mk 0 0 0 0)) (cs' := c44 (api_Inst.mk 2 0 0 0)) rfl (.cons rfl rfl rfl rfl rfl (rfl) (by rw [len44]; decide) (st_44_0_3 _ _) (.nil))) (by simp []) rfl (fun t' ht' => ?_)
 refine Stk.gen (fun t H n => t 6 = .agg (c44 (api_Inst.mk 2 0 0 0))) (by simp [ht']) ?_
 clear  ht' t'
 rintro t H n f6
 refine Stk.ov (vop_build T.t44 rfl rfl (cs := c44 (api_Inst.mk 0 0 0 0)) (cs' := c44 (api_Inst.mk 7 0 0 0)) rfl (.cons rfl rfl rfl rfl rfl (rfl) (by rw [len44]; decide) (st_44_0_3 _ _) (.nil))) (by simp [f6]) rfl (fun t' ht' => ?_)
 refine Stk.gen (fun t H n => t 6 = .agg (c44 (api_Inst.mk 2 0 0 0)) ∧ t 7 = .agg (c44 (api_Inst.mk 7 0 0 0))) ⟨by simp [ht', f6], by simp [ht']⟩ ?_
 clear f6 ht' t'
 rintro t H n ⟨f6, f7⟩
 refine Stk.om (mop_buildN (c := c44) (z := 4) T.t39 rfl T.t44 rfl (by decide) rfl (by decide) [(api_Inst.mk 2 0 0 0), (api_Inst.mk 7 0 0 0)] rfl (.cons f6 rfl rfl rfl (len44 _) (by simp [length_encs]) (splice_next (c := c44) [] _ (api_Inst.mk 2 0 0 0) rfl (by simp)) (.cons f7 rfl rfl rfl (len44 _) (by simp [length_encs]) (splice_next (c := c44) [(api_Inst.mk 2 0 0 0)] _ (api_Inst.mk 7 0 0 0) rfl (by simp)) (.nil)))) (by simp [f6, f7]) rfl (fun t' ht' => ?_)
 refine Stk.gen (fun t H n => ∃ b1, t 8 = .osl b1 0 ([(api_Inst.mk 2 0 0 0), (api_Inst.mk 7 0 0 0)] : List api_Inst).length (some ([(api_Inst.mk 2 0 0 0), (api_Inst.mk 7 0 0 0)] : List api_Inst).length) ∧ H b1 = some (.cells (encs c44 ([(api_Inst.mk 2 0 0 0), (api_Inst.mk 7 0 0 0)] : List api_Inst)) 44) ∧ b1 < n) ⟨n, by simp [ht'], upd_same _ _ _, Nat.lt_succ_self _⟩ ?_
 clear f6 f7 ht' t'
 rintro t H n ⟨b1, f8, b_b1, l_b1⟩
 refine Stk.wkf trivial [b1] 8 (.ssl (encs c44 ([(api_Inst.mk 2 0 0 0), (api_Inst.mk 7 0 0 0)] : List api_Inst)) ([(api_Inst.mk 2 0 0 0), (api_Inst.mk 7 0 0 0)] : List api_Inst).length false) (by rw [f8]; exact .inr (.inr (view_row fr44 b_b1 (by simp) _))) (fun t' H' ht' hH' => ?_)
 refine Stk.gen (fun t H n => t 8 = .ssl (encs c44 ([(api_Inst.mk 2 0 0 0), (api_Inst.mk 7 0 0 0)] : List api_Inst)) ([(api_Inst.mk 2 0 0 0), (api_Inst.mk 7 0 0 0)] : List api_Inst).length false) (by simp [ht', f8]) ?_
 clear f8 b_b1 l_b1 hH' ht' t' H'
 rintro t H n f8
 refine Stk.ov (vop_build T.t41 rfl rfl (cs := c41 (api_Func.mk ⟨#[]⟩ 0 0 [])) (cs' := c41 (api_Func.mk ⟨#[]⟩ 1 2 ([(api_Inst.mk 2 0 0 0), (api_Inst.mk 7 0 0 0)] : List api_Inst))) rfl (.cons rfl rfl rfl rfl rfl (rfl) (by rw [len41]; decide) (st_41_1_3 _ _) (.cons rfl rfl rfl rfl rfl (rfl) (by rw [len41]; decide) (st_41_2_3 _ _) (.cons f8 rfl rfl rfl rfl (rfl) (by rw [len41]; decide) (st_41_3_39 _ _) (.nil))))) (by simp [f8]) rfl (fun t' ht' => ?_)
 refine Stk.gen (fun t H n => t 9 = .agg (c41 (api_Func.mk ⟨#[]⟩ 1 2 ([(api_Inst.mk 2 0 0 0), (api_Inst.mk 7 0 0 0)] : List api_Inst)))) (by simp [ht']) ?_
 clear f8 ht' t'
 rintro t H n f9
 refine Stk.oz T.t41 (cs := c41 (api_Func.mk ⟨#[]⟩ 0 0 [])) (by rfl) rfl (by simp [f9]) rfl (fun t' ht' => ?_)
 refine Stk.gen (fun t H n => ∃ b2, t 1 = .own b2 0 ∧ t 9 = .agg (c41 (api_Func.mk ⟨#[]⟩ 1 2 ([(api_Inst.mk 2 0 0 0), (api_Inst.mk 7 0 0 0)] : List api_Inst))) ∧ H b2 = some (.cells (c41 (api_Func.mk ⟨#[]⟩ 0 0 [])) 41) ∧ b2 < n) ⟨n, by simp [ht'], by simp [ht', f9], upd_same _ _ _, Nat.lt_succ_self _⟩ ?_
 clear f9 ht' t'
 rintro t H n ⟨b2, f1, f9, b_b2, l_b2⟩
 refine Stk.om (mop_store (z := 4) rfl f1 b_b2 f9 (len41 _) (by rw [len41]; decide) (ok41 _) (st_41_0_41 _ _)) (by simp [f1, f9]) rfl (fun t' ht' => ?_)
 refine Stk.gen (fun t H n => t 1 = .own b2 0 ∧ H b2 = some (.cells (c41 (api_Func.mk ⟨#[]⟩ 1 2 ([(api_Inst.mk 2 0 0 0), (api_Inst.mk 7 0 0 0)] : List api_Inst))) 41) ∧ b2 < n) ⟨by simp [ht', f1], upd_same _ _ _, l_b2⟩ ?_
 clear f1 f9 b_b2 l_b2 ht' t'
 rintro t H n ⟨f1, b_b2, l_b2⟩
 refine Stk.on ?_
 refine Stk.sq ?_
 refine Stk.rg ?_
 refine Stk.run 1 (fun t H n => t 11 = .agg (c41 (api_Func.mk ⟨#[]⟩ 1 2 ([(api_Inst.mk 2 0 0 0), (api_Inst.mk 7 0 0 0)] : List api_Inst)))) (fun J hJ => ?_) ?_
 ·simp [-splice, f1, b_b2, ld_41_0_41]
  exact hJ _ _ _ (by simp [-splice, f1, b_b2, ld_41_0_41])
 clear f1 b_b2 l_b2
 rintro t H n f11
 refine Stk.om (mop_buildN (c := c41) (z := 4) T.t22 rfl T.t41 rfl (by decide) rfl (by decide) [(api_Func.mk ⟨#[]⟩ 1 2 ([(api_Inst.mk 2 0 0 0), (api_Inst.mk 7 0 0 0)] : List api_Inst))] rfl (.cons f11 rfl rfl rfl (len41 _) (by simp [length_encs]) (splice_next (c := c41) [] _ (api_Func.mk ⟨#[]⟩ 1 2 ([(api_Inst.mk 2 0 0 0), (api_Inst.mk 7 0 0 0)] : List api_Inst)) rfl (by simp)) (.nil))) (by simp [f11]) rfl (fun t' ht' => ?_)
 refine Stk.gen (fun t H n => ∃ b3, t 12 = .osl b3 0 ([(api_Func.mk ⟨#[]⟩ 1 2 ([(api_Inst.mk 2 0 0 0), (api_Inst.mk 7 0 0 0)] : List api_Inst))] : List api_Func).length (some ([(api_Func.mk ⟨#[]⟩ 1 2 ([(api_Inst.mk 2 0 0 0), (api_Inst.mk 7 0 0 0)] : List api_Inst))] : List api_Func).length) ∧ H b3 = some (.cells (encs c41 ([(api_Func.mk ⟨#[]⟩ 1 2 ([(api_Inst.mk 2 0 0 0), (api_Inst.mk 7 0 0 0)] : List api_Inst))] : List api_Func)) 41) ∧ b3 < n) ⟨n, by simp [ht'], upd_same _ _ _, Nat.lt_succ_self _⟩ ?_
 clear f11 ht' t'
 rintro t H n ⟨b3, f12, b_b3, l_b3⟩
 refine Stk.wkf trivial [b3] 12 (.ssl (encs c41 ([(api_Func.mk ⟨#[]⟩ 1 2 ([(api_Inst.mk 2 0 0 0), (api_Inst.mk 7 0 0 0)] : List api_Inst))] : List api_Func)) ([(api_Func.mk ⟨#[]⟩ 1 2 ([(api_Inst.mk 2 0 0 0), (api_Inst.mk 7 0 0 0)] : List api_Inst))] : List api_Func).length false) (by rw [f12]; exact .inr (.inr (view_row fr41 b_b3 (by simp) _))) (fun t' H' ht' hH' => ?_)
 refine Stk.gen (fun t H n => t 12 = .ssl (encs c41 ([(api_Func.mk ⟨#[]⟩ 1 2 ([(api_Inst.mk 2 0 0 0), (api_Inst.mk 7 0 0 0)] : List api_Inst))] : List api_Func)) ([(api_Func.mk ⟨#[]⟩ 1 2 ([(api_Inst.mk 2 0 0 0), (api_Inst.mk 7 0 0 0)] : List api_Inst))] : List api_Func).length false) (by simp [ht', f12]) ?_
 clear f12 b_b3 l_b3 hH' ht' t' H'
 rintro t H n f12
 refine Stk.ov (vop_build T.t26 rfl rfl (cs := c26 (api_Code.mk [] [] [])) (cs' := c26 (api_Code.mk ([(api_Func.mk ⟨#[]⟩ 1 2 ([(api_Inst.mk 2 0 0 0), (api_Inst.mk 7 0 0 0)] : List api_Inst))] : List api_Func) [] [])) rfl (.cons f12 rfl rfl rfl rfl (rfl) (by rw [len26]; decide) (st_26_0_22 _ _) (.nil))) (by simp [f12]) rfl (fun t' ht' => ?_)
 refine Stk.gen (fun t H n => t 13 = .agg (c26 (api_Code.mk ([(api_Func.mk ⟨#[]⟩ 1 2 ([(api_Inst.mk 2 0 0 0), (api_Inst.mk 7 0 0 0)] : List api_Inst))] : List api_Func) [] []))) (by simp [ht']) ?_
 clear f12 ht' t'
 rintro t H n f13
 obtain ⟨x4, hx4, h⟩ := bnd h
 refine Stk.cv (g := 8) (args := [.agg (c26 (api_Code.mk ([(api_Func.mk ⟨#[]⟩ 1 2 ([(api_Inst.mk 2 0 0 0), (api_Inst.mk 7 0 0 0)] : List api_Inst))] : List api_Func) [] []))]) (args' := [.agg (c26 (api_Code.mk ([(api_Func.mk ⟨#[]⟩ 1 2 ([(api_Inst.mk 2 0 0 0), (api_Inst.mk 7 0 0 0)] : List api_Inst))] : List api_Func) [] []))]) (v := .tup [.ssl (encs c36 x4.1) x4.1.length false, .sc (.int .i64 x4.2)]) [] (ok_flow_Check F _ _ hx4) (by simp [f13]) rfl rfl (by simp [f13]) (.cons (.free (fr26 _)) (.nil)) (.inl ⟨rfl, by simp [free, freeL, freeL_encs fr36]⟩) (fun t' ht' => ?_)
 refine Stk.gen (fun t H n => t 14 = .tup [.ssl (encs c36 x4.1) x4.1.length false, .sc (.int .i64 x4.2)]) (by simp [ht']) ?_
 clear f13 ht' t'
 rintro t H n f14
 refine Stk.run 5 (fun t H n => t 2 = .ssl (encs c36 x4.1) x4.1.length false ∧ t 3 = .sc (.int .i64 x4.2)) (fun J hJ => ?_) ?_
 ·simp [-splice, f14]
  exact hJ _ _ _ ⟨by simp [-splice, f14], by simp [-splice, f14]⟩
 clear f14
 rintro t H n ⟨f2, f3⟩
 refine Stk.on ?_
 refine Stk.sq ?_
 refine Stk.rg ?_
 refine Stk.ov (vop_build T.t44 rfl rfl (cs := c44 (api_Inst.mk 0 0 0 0)) (cs' := c44 (api_Inst.mk 7 0 0 0)) rfl (.cons rfl rfl rfl rfl rfl (rfl) (by rw [len44]; decide) (st_44_0_3 _ _) (.nil))) (by simp [f2, f3]) rfl (fun t' ht' => ?_)
 refine Stk.gen (fun t H n => t 2 = .ssl (encs c36 x4.1) x4.1.length false ∧ t 3 = .sc (.int .i64 x4.2) ∧ t 18 = .agg (c44 (api_Inst.mk 7 0 0 0))) ⟨by simp [ht', f2], by simp [ht', f3], by simp [ht']⟩ ?_
 clear f2 f3 ht' t'
 rintro t H n ⟨f2, f3, f18⟩
 refine Stk.om (mop_buildN (c := c44) (z := 4) T.t39 rfl T.t44 rfl (by decide) rfl (by decide) [(api_Inst.mk 7 0 0 0)] rfl (.cons f18 rfl rfl rfl (len44 _) (by simp [length_encs]) (splice_next (c := c44) [] _ (api_Inst.mk 7 0 0 0) rfl (by simp)) (.nil))) (by simp [f2, f3, f18]) rfl (fun t' ht' => ?_)
 refine Stk.gen (fun t H n => ∃ b5, t 2 = .ssl (encs c36 x4.1) x4.1.length false ∧ t 3 = .sc (.int .i64 x4.2) ∧ t 19 = .osl b5 0 ([(api_Inst.mk 7 0 0 0)] : List api_Inst).length (some ([(api_Inst.mk 7 0 0 0)] : List api_Inst).length) ∧ H b5 = some (.cells (encs c44 ([(api_Inst.mk 7 0 0 0)] : List api_Inst)) 44) ∧ b5 < n) ⟨n, by simp [ht', f2], by simp [ht', f3], by simp [ht'], upd_same _ _ _, Nat.lt_succ_self _⟩ ?_
 clear f2 f3 f18 ht' t'
 rintro t H n ⟨b5, f2, f3, f19, b_b5, l_b5⟩
 refine Stk.wkf trivial [b5] 19 (.ssl (encs c44 ([(api_Inst.mk 7 0 0 0)] : List api_Inst)) ([(api_Inst.mk 7 0 0 0)] : List api_Inst).length false) (by rw [f19]; exact .inr (.inr (view_row fr44 b_b5 (by simp) _))) (fun t' H' ht' hH' => ?_)
 refine Stk.gen (fun t H n => t 2 = .ssl (encs c36 x4.1) x4.1.length false ∧ t 3 = .sc (.int .i64 x4.2) ∧ t 19 = .ssl (encs c44 ([(api_Inst.mk 7 0 0 0)] : List api_Inst)) ([(api_Inst.mk 7 0 0 0)] : List api_Inst).length false) ⟨by simp [ht', f2], by simp [ht', f3], by simp [ht', f19]⟩ ?_
 clear f2 f3 f19 b_b5 l_b5 hH' ht' t' H'
 rintro t H n ⟨f2, f3, f19⟩
 refine Stk.ov (vop_build T.t41 rfl rfl (cs := c41 (api_Func.mk ⟨#[]⟩ 0 0 [])) (cs' := c41 (api_Func.mk ⟨#[]⟩ 0 2 ([(api_Inst.mk 7 0 0 0)] : List api_Inst))) rfl (.cons rfl rfl rfl rfl rfl (rfl) (by rw [len41]; decide) (st_41_2_3 _ _) (.cons f19 rfl rfl rfl rfl (rfl) (by rw [len41]; decide) (st_41_3_39 _ _) (.nil)))) (by simp [f2, f3, f19]) rfl (fun t' ht' => ?_)
 refine Stk.gen (fun t H n => t 2 = .ssl (encs c36 x4.1) x4.1.length false ∧ t 3 = .sc (.int .i64 x4.2) ∧ t 20 = .agg (c41 (api_Func.mk ⟨#[]⟩ 0 2 ([(api_Inst.mk 7 0 0 0)] : List api_Inst)))) ⟨by simp [ht', f2], by simp [ht', f3], by simp [ht']⟩ ?_
 clear f2 f3 f19 ht' t'
 rintro t H n ⟨f2, f3, f20⟩
 refine Stk.om (mop_buildN (c := c41) (z := 4) T.t22 rfl T.t41 rfl (by decide) rfl (by decide) [(api_Func.mk ⟨#[]⟩ 0 2 ([(api_Inst.mk 7 0 0 0)] : List api_Inst))] rfl (.cons f20 rfl rfl rfl (len41 _) (by simp [length_encs]) (splice_next (c := c41) [] _ (api_Func.mk ⟨#[]⟩ 0 2 ([(api_Inst.mk 7 0 0 0)] : List api_Inst)) rfl (by simp)) (.nil))) (by simp [f2, f3, f20]) rfl (fun t' ht' => ?_)
 refine Stk.gen (fun t H n => ∃ b6, t 2 = .ssl (encs c36 x4.1) x4.1.length false ∧ t 3 = .sc (.int .i64 x4.2) ∧ t 21 = .osl b6 0 ([(api_Func.mk ⟨#[]⟩ 0 2 ([(api_Inst.mk 7 0 0 0)] : List api_Inst))] : List api_Func).length (some ([(api_Func.mk ⟨#[]⟩ 0 2 ([(api_Inst.mk 7 0 0 0)] : List api_Inst))] : List api_Func).length) ∧ H b6 = some (.cells (encs c41 ([(api_Func.mk ⟨#[]⟩ 0 2 ([(api_Inst.mk 7 0 0 0)] : List api_Inst))] : List api_Func)) 41) ∧ b6 < n) ⟨n, by simp [ht', f2], by simp [ht', f3], by simp [ht'], upd_same _ _ _, Nat.lt_succ_self _⟩ ?_
 clear f2 f3 f20 ht' t'
 rintro t H n ⟨b6, f2, f3, f21, b_b6, l_b6⟩
 refine Stk.wkf trivial [b6] 21 (.ssl (encs c41 ([(api_Func.mk ⟨#[]⟩ 0 2 ([(api_Inst.mk 7 0 0 0)] : List api_Inst))] : List api_Func)) ([(api_Func.mk ⟨#[]⟩ 0 2 ([(api_Inst.mk 7 0 0 0)] : List api_Inst))] : List api_Func).length false) (by rw [f21]; exact .inr (.inr (view_row fr41 b_b6 (by simp) _))) (fun t' H' ht' hH' => ?_)
 refine Stk.gen (fun t H n => t 2 = .ssl (encs c36 x4.1) x4.1.length false ∧ t 3 = .sc (.int .i64 x4.2) ∧ t 21 = .ssl (encs c41 ([(api_Func.mk ⟨#[]⟩ 0 2 ([(api_Inst.mk 7 0 0 0)] : List api_Inst))] : List api_Func)) ([(api_Func.mk ⟨#[]⟩ 0 2 ([(api_Inst.mk 7 0 0 0)] : List api_Inst))] : List api_Func).length false) ⟨by simp [ht', f2], by simp [ht', f3], by simp [ht', f21]⟩ ?_
 clear f2 f3 f21 b_b6 l_b6 hH' ht' t' H'
 rintro t H n ⟨f2, f3, f21⟩
 refine Stk.ov (vop_build T.t26 rfl rfl (cs := c26 (api_Code.mk [] [] [])) (cs' := c26 (api_Code.mk ([(api_Func.mk ⟨#[]⟩ 0 2 ([(api_Inst.mk 7 0 0 0)] : List api_Inst))] : List api_Func) [] [])) rfl (.cons f21 rfl rfl rfl rfl (rfl) (by rw [len26]; decide) (st_26_0_22 _ _) (.nil))) (by simp [f2, f3, f21]) rfl (fun t' ht' => ?_)
 refine Stk.gen (fun t H n => t 2 = .ssl (encs c36 x4.1) x4.1.length false ∧ t 3 = .sc (.int .i64 x4.2) ∧ t 22 = .agg (c26 (api_Code.mk ([(api_Func.mk ⟨#[]⟩ 0 2 ([(api_Inst.mk 7 0 0 0)] : List api_Inst))] : List api_Func) [] []))) ⟨by simp [ht', f2], by simp [ht', f3], by simp [ht']⟩ ?_
 clear f2 f3 f21 ht' t'
 rintro t H n ⟨f2, f3, f22⟩
 obtain ⟨x7, hx7, h⟩ := bnd h
 refine Stk.cv (g := 8) (args := [.agg (c26 (api_Code.mk ([(api_Func.mk ⟨#[]⟩ 0 2 ([(api_Inst.mk 7 0 0 0)] : List api_Inst))] : List api_Func) [] []))]) (args' := [.agg (c26 (api_Code.mk ([(api_Func.mk ⟨#[]⟩ 0 2 ([(api_Inst.mk 7 0 0 0)] : List api_Inst))] : List api_Func) [] []))]) (v := .tup [.ssl (encs c36 x7.1) x7.1.length false, .sc (.int .i64 x7.2)]) [] (ok_flow_Check F _ _ hx7) (by simp [f2, f3, f22]) rfl rfl (by simp [f2, f3, f22]) (.cons (.free (fr26 _)) (.nil)) (.inl ⟨rfl, by simp [free, freeL, freeL_encs fr36]⟩) (fun t' ht' => ?_)
 refine Stk.gen (fun t H n => t 2 = .ssl (encs c36 x4.1) x4.1.length false ∧ t 3 = .sc (.int .i64 x4.2) ∧ t 23 = .tup [.ssl (encs c36 x7.1) x7.1.length false, .sc (.int .i64 x7.2)]) ⟨by simp [ht', f2], by simp [ht', f3], by simp [ht']⟩ ?_
 clear f2 f3 f22 ht' t'
 rintro t H n ⟨f2, f3, f23⟩
 refine Stk.run 5 (fun t H n => t 2 = .ssl (encs c36 x4.1) x4.1.length false ∧ t 3 = .sc (.int .i64 x4.2) ∧ t 5 = .sc (.int .i64 x7.2)) (fun J hJ => ?_) ?_
 ·simp [-splice, f2, f3, f23]
  exact hJ _ _ _ ⟨by simp [f2], by simp [f3], by simp [-splice, f2, f3, f23]⟩
 clear f2 f3 f23
 rintro t H n ⟨f2, f3, f5⟩
 refine Stk.on ?_
 refine Stk.sq ?_
 refine Stk.rg ?_
 refine Stk.run 3 (fun t H n => t 2 = .ssl (encs c36 x4.1) x4.1.length false ∧ t 5 = .sc (.int .i64 x7.2) ∧ t 28 = .sc (.bool (x4.2 == 0))) (fun J hJ => ?_) ?_
 ·simp [-splice, f2, f3, f5]
  exact hJ _ _ _ ⟨by simp [f2], by simp [f5], by simp [-splice, f2, f3, f5]⟩
 clear f2 f3 f5
 rintro t H n ⟨f2, f5, f28⟩
 refine Stk.jo 4 (fun t H n => t 2 = .ssl (encs c36 x4.1) x4.1.length false ∧ t 5 = .sc (.int .i64 x7.2) ∧ t 32 = .sc (.bool ((x4.2 == 0) && ((x4.1.length : Int) == 1)))) (fun J1 hJ1 => ?_) ?_
 ·rcases Bool.eq_false_or_eq_true (x4.2 == 0) with hb1 | hb1
  ·rw [hb1] at f28
   refine Stk.run 4 (fun t H n => t 2 = .ssl (encs c36 x4.1) x4.1.length false ∧ t 5 = .sc (.int .i64 x7.2) ∧ t 32 = .sc (.bool ((x4.1.length : Int) == 1))) (fun J hJ => ?_) ?_
   ·simp [-splice, f2, f5, f28]
    exact hJ _ _ _ ⟨by simp [f2], by simp [f5], by simp [-splice, f2, f5, f28]⟩
   clear f2 f5 f28
   rintro t H n ⟨f2, f5, f32⟩
   refine Stk.on ?_
   exact Stk.ln 0 (by decide) (hJ1 _ _ _ ⟨f2, f5, f32.trans (congrArg (fun q => AV.sc (.bool q)) (by rw [hb1]; rfl))⟩)
  ·rw [hb1] at f28
   refine Stk.run 4 (fun t H n => t 2 = .ssl (encs c36 x4.1) x4.1.length false ∧ t 5 = .sc (.int .i64 x7.2) ∧ t 32 = .sc (.bool false)) (fun J hJ => ?_) ?_
   ·simp [-splice, f2, f5, f28]
    exact hJ _ _ _ ⟨by simp [f2], by simp [f5], by simp [-splice, f2, f5, f28]⟩
   clear f2 f5 f28
   rintro t H n ⟨f2, f5, f32⟩
   refine Stk.on ?_
   exact Stk.ln 0 (by decide) (hJ1 _ _ _ ⟨f2, f5, f32.trans (congrArg (fun q => AV.sc (.bool q)) (by rw [hb1]; rfl))⟩)
 clear f2 f5 f28
 rintro t H n ⟨f2, f5, f32⟩
 refine Stk.run 1 (fun t H n => t 2 = .ssl (encs c36 x4.1) x4.1.length false ∧ t 5 = .sc (.int .i64 x7.2) ∧ t 33 = .sc (.bool ((x4.2 == 0) && ((x4.1.length : Int) == 1)))) (fun J hJ => ?_) ?_
 ·simp [-splice, f2, f5, f32]
  exact hJ _ _ _ ⟨by simp [f2], by simp [f5], by simp [-splice, f2, f5, f32]⟩
 clear f2 f5 f32
 rintro t H n ⟨f2, f5, f33⟩
 obtain ⟨K2, hK2, h⟩ := jnd h
 refine Stk.jo 6 (fun t H n => ∃ v8 : Bool, K2 v8 = some r ∧ t 2 = .ssl (encs c36 x4.1) x4.1.length false ∧ t 5 = .sc (.int .i64 x7.2) ∧ t 39 = .sc (.bool v8)) (fun J2 hJ2 => ?_) ?_
 ·rcases Bool.eq_false_or_eq_true ((x4.2 == 0) && ((x4.1.length : Int) == 1)) with hb2 | hb2
  ·rw [hb2] at f33
   replace h := cT hb2 h
   obtain ⟨x9, hx9, h⟩ := bnd h
   obtain ⟨i0x9, i1x9, i2x9, _⟩ := idx_ok hx9
   have i5x9 : 0 < x4.1.length := by omega
   have i6x9 : ¬ x4.1 = [] := List.ne_nil_of_length_pos i5x9
   have ex9_0_36 : partOf T.T 36 (encs c36 x4.1) 0 = some (.ssl (encs c42 x9) x9.length false) := by
     have e0 := part_elem0 (e := c36) (z := 1) (T := T.T) (ty := 36) T.t36 (by decide) (by decide) hx9 0 (by decide)
     (try simp only [Nat.mul_one, Nat.add_zero, Int.toNat_ofNat, Nat.zero_mul, Nat.zero_add] at e0)
     exact e0.trans rfl
   refine Stk.run 6 (fun t H n => t 2 = .ssl (encs c36 x4.1) x4.1.length false ∧ t 5 = .sc (.int .i64 x7.2) ∧ t 39 = .sc (.bool ((x9.length : Int) == 2))) (fun J hJ => ?_) ?_
   ·simp [-splice, f2, f5, f33, i0x9, i1x9, i5x9, i6x9, pd36, ex9_0_36]
    exact hJ _ _ _ ⟨by simp [f2], by simp [f5], by simp [-splice, f2, f5, f33, i0x9, i1x9, i5x9, i6x9, pd36, ex9_0_36]⟩
   clear f2 f5 f33
   rintro t H n ⟨f2, f5, f39⟩
   refine Stk.on ?_
   exact Stk.ln 0 (by decide) (hJ2 _ _ _ ⟨((x9.length : Int) == 2), h, f2, f5, f39⟩)
  ·rw [hb2] at f33
   replace h := cF hb2 h
   refine Stk.run 6 (fun t H n => t 2 = .ssl (encs c36 x4.1) x4.1.length false ∧ t 5 = .sc (.int .i64 x7.2) ∧ t 39 = .sc (.bool false)) (fun J hJ => ?_) ?_
   ·simp [-splice, f2, f5, f33]
    exact hJ _ _ _ ⟨by simp [f2], by simp [f5], by simp [-splice, f2, f5, f33]⟩
   clear f2 f5 f33
   rintro t H n ⟨f2, f5, f39⟩
   refine Stk.on ?_
   exact Stk.ln 0 (by decide) (hJ2 _ _ _ ⟨false, h, f2, f5, f39⟩)
 clear h f2 f5 f33
 rintro t H n ⟨v8, h, f2, f5, f39⟩
 subst hK2
 refine Stk.run 1 (fun t H n => t 2 = .ssl (encs c36 x4.1) x4.1.length false ∧ t 5 = .sc (.int .i64 x7.2) ∧ t 40 = .sc (.bool v8)) (fun J hJ => ?_) ?_
 ·simp [-splice, f2, f5, f39]
  exact hJ _ _ _ ⟨by simp [f2], by simp [f5], by simp [-splice, f2, f5, f39]⟩
 clear f2 f5 f39
 rintro t H n ⟨f2, f5, f40⟩
 obtain ⟨K3, hK3, h⟩ := jnd h
 refine Stk.jo 8 (fun t H n => ∃ v10 : Bool, K3 v10 = some r ∧ t 2 = .ssl (encs c36 x4.1) x4.1.length false ∧ t 5 = .sc (.int .i64 x7.2) ∧ t 48 = .sc (.bool v10)) (fun J3 hJ3 => ?_) ?_
 ·rcases Bool.eq_false_or_eq_true v8 with hb3 | hb3
  ·rw [hb3] at f40
   replace h := cT hb3 h
   obtain ⟨x11, hx11, h⟩ := bnd h
   obtain ⟨i0x11, i1x11, i2x11, _⟩ := idx_ok hx11
   have i5x11 : 0 < x4.1.length := by omega
   have i6x11 : ¬ x4.1 = [] := List.ne_nil_of_length_pos i5x11
   have ex11_0_36 : partOf T.T 36 (encs c36 x4.1) 0 = some (.ssl (encs c42 x11) x11.length false) := by
     have e0 := part_elem0 (e := c36) (z := 1) (T := T.T) (ty := 36) T.t36 (by decide) (by decide) hx11 0 (by decide)
     (try simp only [Nat.mul_one, Nat.add_zero, Int.toNat_ofNat, Nat.zero_mul, Nat.zero_add] at e0)
     exact e0.trans rfl
   obtain ⟨x12, hx12, h⟩ := bnd h
   obtain ⟨i0x12, i1x12, i2x12, _⟩ := idx_ok hx12
   have i5x12 : 0 < x11.length := by omega
   have i6x12 : ¬ x11 = [] := List.ne_nil_of_length_pos i5x12
   have ex12_0_42 : partOf T.T 42 (encs c42 x11) 0 = some (.ssl (encs c4 x12) x12.length false) := by
     have e0 := part_elem0 (e := c42) (z := 1) (T := T.T) (ty := 42) T.t42 (by decide) (by decide) hx12 0 (by decide)
     (try simp only [Nat.mul_one, Nat.add_zero, Int.toNat_ofNat, Nat.zero_mul, Nat.zero_add] at e0)
     exact e0.trans rfl
   refine Stk.run 8 (fun t H n => t 2 = .ssl (encs c36 x4.1) x4.1.length false ∧ t 5 = .sc (.int .i64 x7.2) ∧ t 48 = .sc (.bool ((x12.length : Int) == 1))) (fun J hJ => ?_) ?_
   ·simp [-splice, f2, f5, f40, i0x11, i1x11, i5x11, i6x11, pd36, ex11_0_36, i0x12, i1x12, i5x12, i6x12, pd42, ex12_0_42]
    exact hJ _ _ _ ⟨by simp [f2], by simp [f5], by simp [-splice, f2, f5, f40, i0x11, i1x11, i5x11, i6x11, pd36, ex11_0_36, i0x12, i1x12, i5x12, i6x12, pd42, ex12_0_42]⟩
   clear f2 f5 f40
   rintro t H n ⟨f2, f5, f48⟩
   refine Stk.on ?_
   exact Stk.ln 0 (by decide) (hJ3 _ _ _ ⟨((x12.length : Int) == 1), h, f2, f5, f48⟩)
  ·rw [hb3] at f40
   replace h := cF hb3 h
   refine Stk.run 8 (fun t H n => t 2 = .ssl (encs c36 x4.1) x4.1.length false ∧ t 5 = .sc (.int .i64 x7.2) ∧ t 48 = .sc (.bool false)) (fun J hJ => ?_) ?_
   ·simp [-splice, f2, f5, f40]
    exact hJ _ _ _ ⟨by simp [f2], by simp [f5], by simp [-splice, f2, f5, f40]⟩
   clear f2 f5 f40
   rintro t H n ⟨f2, f5, f48⟩
   refine Stk.on ?_
   exact Stk.ln 0 (by decide) (hJ3 _ _ _ ⟨false, h, f2, f5, f48⟩)
 clear h f2 f5 f40
 rintro t H n ⟨v10, h, f2, f5, f48⟩
 subst hK3
 refine Stk.run 1 (fun t H n => t 2 = .ssl (encs c36 x4.1) x4.1.length false ∧ t 5 = .sc (.int .i64 x7.2) ∧ t 49 = .sc (.bool v10)) (fun J hJ => ?_) ?_
 ·simp [-splice, f2, f5, f48]
  exact hJ _ _ _ ⟨by simp [f2], by simp [f5], by simp [-splice, f2, f5, f48]⟩
 clear f2 f5 f48
 rintro t H n ⟨f2, f5, f49⟩
 obtain ⟨K4, hK4, h⟩ := jnd h
 refine Stk.jo 8 (fun t H n => ∃ v13 : Bool, K4 v13 = some r ∧ t 2 = .ssl (encs c36 x4.1) x4.1.length false ∧ t 5 = .sc (.int .i64 x7.2) ∧ t 57 = .sc (.bool v13)) (fun J4 hJ4 => ?_) ?_
 ·rcases Bool.eq_false_or_eq_true v10 with hb4 | hb4
  ·rw [hb4] at f49
   replace h := cT hb4 h
   obtain ⟨x14, hx14, h⟩ := bnd h
   obtain ⟨i0x14, i1x14, i2x14, _⟩ := idx_ok hx14
   have i5x14 : 0 < x4.1.length := by omega
   have i6x14 : ¬ x4.1 = [] := List.ne_nil_of_length_pos i5x14
   have ex14_0_36 : partOf T.T 36 (encs c36 x4.1) 0 = some (.ssl (encs c42 x14) x14.length false) := by
     have e0 := part_elem0 (e := c36) (z := 1) (T := T.T) (ty := 36) T.t36 (by decide) (by decide) hx14 0 (by decide)
     (try simp only [Nat.mul_one, Nat.add_zero, Int.toNat_ofNat, Nat.zero_mul, Nat.zero_add] at e0)
     exact e0.trans rfl
   obtain ⟨x15, hx15, h⟩ := bnd h
   obtain ⟨i0x15, i1x15, i2x15, _⟩ := idx_ok hx15
   have i5x15 : 1 < x14.length := by omega
   have ex15_0_42 : partOf T.T 42 (encs c42 x14) 1 = some (.ssl (encs c4 x15) x15.length false) := by
     have e0 := part_elem0 (e := c42) (z := 1) (T := T.T) (ty := 42) T.t42 (by decide) (by decide) hx15 0 (by decide)
     (try simp only [Nat.mul_one, Nat.add_zero, Int.toNat_ofNat, Nat.zero_mul, Nat.zero_add] at e0)
     exact e0.trans rfl
   refine Stk.run 8 (fun t H n => t 2 = .ssl (encs c36 x4.1) x4.1.length false ∧ t 5 = .sc (.int .i64 x7.2) ∧ t 57 = .sc (.bool ((x15.length : Int) == 2))) (fun J hJ => ?_) ?_
   ·simp [-splice, f2, f5, f49, i0x14, i1x14, i5x14, i6x14, pd36, ex14_0_36, i0x15, i1x15, i5x15, pd42, pt42, ex15_0_42]
    exact hJ _ _ _ ⟨by simp [f2], by simp [f5], by simp [-splice, f2, f5, f49, i0x14, i1x14, i5x14, i6x14, pd36, ex14_0_36, i0x15, i1x15, i5x15, pd42, pt42, ex15_0_42]⟩
   clear f2 f5 f49
   rintro t H n ⟨f2, f5, f57⟩
   refine Stk.on ?_
   exact Stk.ln 0 (by decide) (hJ4 _ _ _ ⟨((x15.length : Int) == 2), h, f2, f5, f57⟩)
  ·rw [hb4] at f49
   replace h := cF hb4 h
   refine Stk.run 8 (fun t H n => t 2 = .ssl (encs c36 x4.1) x4.1.length false ∧ t 5 = .sc (.int .i64 x7.2) ∧ t 57 = .sc (.bool false)) (fun J hJ => ?_) ?_
   ·simp [-splice, f2, f5, f49]
    exact hJ _ _ _ ⟨by simp [f2], by simp [f5], by simp [-splice, f2, f5, f49]⟩
   clear f2 f5 f49
   rintro t H n ⟨f2, f5, f57⟩
   refine Stk.on ?_
   exact Stk.ln 0 (by decide) (hJ4 _ _ _ ⟨false, h, f2, f5, f57⟩)
 clear h f2 f5 f49
 rintro t H n ⟨v13, h, f2, f5, f57⟩
 subst hK4
 refine Stk.run 1 (fun t H n => t 2 = .ssl (encs c36 x4.1) x4.1.length false ∧ t 5 = .sc (.int .i64 x7.2) ∧ t 58 = .sc (.bool v13)) (fun J hJ => ?_) ?_
 ·simp [-splice, f2, f5, f57]
  exact hJ _ _ _ ⟨by simp [f2], by simp [f5], by simp [-splice, f2, f5, f57]⟩
 clear f2 f5 f57
 rintro t H n ⟨f2, f5, f58⟩
 obtain ⟨K5, hK5, h⟩ := jnd h
 refine Stk.jo 6 (fun t H n => ∃ v16 : Bool, K5 v16 = some r ∧ t 5 = .sc (.int .i64 x7.2) ∧ t 64 = .sc (.bool v16)) (fun J5 hJ5 => ?_) ?_
 ·rcases Bool.eq_false_or_eq_true v13 with hb5 | hb5
  ·rw [hb5] at f58
   replace h := cT hb5 h
   obtain ⟨x17, hx17, h⟩ := bnd h
   obtain ⟨i0x17, i1x17, i2x17, _⟩ := idx_ok hx17
   have i5x17 : 0 < x4.1.length := by omega
   have i6x17 : ¬ x4.1 = [] := List.ne_nil_of_length_pos i5x17
   have ex17_0_36 : partOf T.T 36 (encs c36 x4.1) 0 = some (.ssl (encs c42 x17) x17.length false) := by
     have e0 := part_elem0 (e := c36) (z := 1) (T := T.T) (ty := 36) T.t36 (by decide) (by decide) hx17 0 (by decide)
     (try simp only [Nat.mul_one, Nat.add_zero, Int.toNat_ofNat, Nat.zero_mul, Nat.zero_add] at e0)
     exact e0.trans rfl
   refine Stk.run 3 (fun t H n => t 5 = .sc (.int .i64 x7.2) ∧ t 58 = .sc (.bool true) ∧ t 61 = .ssl (encs c42 x17) x17.length false) (fun J hJ => ?_) ?_
   ·simp [-splice, f2, f5, f58, i0x17, i1x17, i5x17, i6x17, pd36, ex17_0_36]
    exact hJ _ _ _ ⟨by simp [f5], by simp [f58], by simp [-splice, f2, f5, f58, i0x17, i1x17, i5x17, i6x17, pd36, ex17_0_36]⟩
   clear f2 f5 f58
   rintro t H n ⟨f5, f58, f61⟩
   obtain ⟨x18, hx18, h⟩ := bnd h
   refine Stk.cv (g := 11) (args := [.ssl (encs c42 x17) x17.length false]) (args' := [.ssl (encs c42 x17) x17.length false]) (v := .sc (.int .i64 x18)) [] (ok_flow_Height F _ _ hx18) (by simp [f5, f58, f61]) rfl rfl (by simp [f5, f58, f61]) (.cons (.free (freeL_encs fr42 _)) (.nil)) (.inl ⟨rfl, rfl⟩) (fun t' ht' => ?_)
   refine Stk.gen (fun t H n => t 5 = .sc (.int .i64 x7.2) ∧ t 58 = .sc (.bool true) ∧ t 62 = .sc (.int .i64 x18)) ⟨by simp [ht', f5], by simp [ht', f58], by simp [ht']⟩ ?_
   clear f5 f58 f61 ht' t'
   rintro t H n ⟨f5, f58, f62⟩
   refine Stk.run 2 (fun t H n => t 5 = .sc (.int .i64 x7.2) ∧ t 64 = .sc (.bool (x18 == 2))) (fun J hJ => ?_) ?_
   ·simp [-splice, f5, f58, f62]
    exact hJ _ _ _ ⟨by simp [f5], by simp [-splice, f5, f58, f62]⟩
   clear f5 f58 f62
   rintro t H n ⟨f5, f64⟩
   refine Stk.on ?_
   exact Stk.ln 0 (by decide) (hJ5 _ _ _ ⟨(x18 == 2), h, f5, f64⟩)
  ·rw [hb5] at f58
   replace h := cF hb5 h
   refine Stk.run 6 (fun t H n => t 5 = .sc (.int .i64 x7.2) ∧ t 64 = .sc (.bool false)) (fun J hJ => ?_) ?_
   ·simp [-splice, f2, f5, f58]
    exact hJ _ _ _ ⟨by simp [f5], by simp [-splice, f2, f5, f58]⟩
   clear f2 f5 f58
   rintro t H n ⟨f5, f64⟩
   refine Stk.on ?_
   exact Stk.ln 0 (by decide) (hJ5 _ _ _ ⟨false, h, f5, f64⟩)
 clear h f2 f5 f58
 rintro t H n ⟨v16, h, f5, f64⟩
 subst hK5
 refine Stk.run 1 (fun t H n => t 5 = .sc (.int .i64 x7.2) ∧ t 65 = .sc (.bool v16)) (fun J hJ => ?_) ?_
 ·simp [-splice, f5, f64]
  exact hJ _ _ _ ⟨by simp [f5], by simp [-splice, f5, f64]⟩
 clear f5 f64
 rintro t H n ⟨f5, f65⟩
 refine Stk.jo 3 (fun t H n => t 68 = .sc (.bool (v16 && (x7.2 == 24)))) (fun J6 hJ6 => ?_) ?_
 ·rcases Bool.eq_false_or_eq_true v16 with hb6 | hb6
  ·rw [hb6] at f65
   refine Stk.run 3 (fun t H n => t 68 = .sc (.bool (x7.2 == 24))) (fun J hJ => ?_) ?_
   ·simp [-splice, f5, f65]
    exact hJ _ _ _ (by simp [-splice, f5, f65])
   clear f5 f65
   rintro t H n f68
   refine Stk.on ?_
   exact Stk.ln 0 (by decide) (hJ6 _ _ _ (f68.trans (congrArg (fun q => AV.sc (.bool q)) (by rw [hb6]; rfl))))
  ·rw [hb6] at f65
   refine Stk.run 3 (fun t H n => t 68 = .sc (.bool false)) (fun J hJ => ?_) ?_
   ·simp [-splice, f5, f65]
    exact hJ _ _ _ (by simp [-splice, f5, f65])
   clear f5 f65
   rintro t H n f68
   refine Stk.on ?_
   exact Stk.ln 0 (by decide) (hJ6 _ _ _ (f68.trans (congrArg (fun q => AV.sc (.bool q)) (by rw [hb6]; rfl))))
 clear f5 f65
 rintro t H n f68
 refine Stk.run 1 (fun t H n => t 0 = .sc (.bool (v16 && (x7.2 == 24)))) (fun J hJ => ?_) ?_
 ·simp [-splice, f68]
  exact hJ _ _ _ (by simp [-splice, f68])
 clear f68
 rintro t H n f0
 refine Stk.on ?_
 refine Stk.rt ?_
 have hq := Option.some.inj h; subst hq
 exact (hr _ _ _ (.sc (.bool (v16 && (x7.2 == 24)))) ([]) (by simp [f0]) (.inr (.inr (.free (rfl))))).1
theorem ok_L21_leads (F : Nat) (a0 : (List Bool)) (a1 : (List Bool)) (a2 : Int) (a3 : Int) (a4 : api_Inst) (r : Bool) (h : L21_leads F a0 a1 a2 a3 a4 = some r) : RunF Try.prog T.T 16 [.ssl (encs c4 a0) a0.length false, .ssl (encs c4 a1) a1.length false, .sc (.int .i64 a2), .sc (.int .i64 a3), .agg (c44 a4)] (.sc (.bool r)) := by
 rw [L21_leads] at h
 refine RunF.z Try.func16 rfl rfl rfl rfl rfl (fun C hr => ?_)
 refine Stk.gen (fun t H n => t 0 = .ssl (encs c4 a0) a0.length false ∧ t 1 = .ssl (encs c4 a1) a1.length false ∧ t 2 = .sc (.int .i64 a2) ∧ t 3 = .sc (.int .i64 a3) ∧ t 4 = .agg (c44 a4)) ⟨by simp, by simp, by simp, by simp, by simp⟩ ?_
 rintro t H n ⟨f0, f1, f2, f3, f4⟩
 refine Stk.sq ?_
 refine Stk.rg ?_
 refine Stk.om (mop_box T.t44 (cs := c44 a4) (by show partOk (t 4) = true; rw [f4]; rfl) (by show cellsOf (t 4) = _; rw [f4]; rfl)) (by simp [f0, f1, f2, f3, f4]) rfl (fun t' ht' => ?_)
 refine Stk.gen (fun t H n => ∃ b1, t 0 = .ssl (encs c4 a0) a0.length false ∧ t 1 = .ssl (encs c4 a1) a1.length false ∧ t 2 = .sc (.int .i64 a2) ∧ t 3 = .sc (.int .i64 a3) ∧ t 9 = .own b1 0 ∧ H b1 = some (.cells (c44 a4) 44) ∧ b1 < n) ⟨n, by simp [ht', f0], by simp [ht', f1], by simp [ht', f2], by simp [ht', f3], by simp [ht'], upd_same _ _ _, Nat.lt_succ_self _⟩ ?_
 clear f0 f1 f2 f3 f4 ht' t'
 rintro t H n ⟨b1, f0, f1, f2, f3, f9, b_b1, l_b1⟩
 refine Stk.run 1 (fun t H n => t 0 = .ssl (encs c4 a0) a0.length false ∧ t 1 = .ssl (encs c4 a1) a1.length false ∧ t 2 = .sc (.int .i64 a2) ∧ t 3 = .sc (.int .i64 a3) ∧ t 9 = .own b1 0 ∧ H b1 = some (.cells (c44 a4) 44) ∧ b1 < n) (fun J hJ => ?_) ?_
 ·simp [-splice, f0, f1, f2, f3, f9, b_b1]
  exact hJ _ _ _ ⟨by simp [f0], by simp [f1], by simp [f2], by simp [f3], by simp [f9], b_b1, l_b1⟩
 clear f0 f1 f2 f3 f9 b_b1 l_b1
 rintro t H n ⟨f0, f1, f2, f3, f9, b_b1, l_b1⟩
 refine Stk.on ?_
 refine Stk.sq ?_
 refine Stk.rg ?_
 refine Stk.run 5 (fun t H n => t 0 = .ssl (encs c4 a0) a0.length false ∧ t 1 = .ssl (encs c4 a1) a1.length false ∧ t 3 = .sc (.int .i64 a3) ∧ t 9 = .own b1 0 ∧ t 11 = .sc (.int .i64 (IntKind.i64.wrap ((a0.length : Int) - a2))) ∧ H b1 = some (.cells (c44 a4) 44) ∧ b1 < n) (fun J hJ => ?_) ?_
 ·simp [-splice, f0, f1, f2, f3, f9, b_b1]
  exact hJ _ _ _ ⟨by simp [f0], by simp [f1], by simp [f3], by simp [f9], by simp [-splice, f0, f1, f2, f3, f9, b_b1], b_b1, l_b1⟩
 clear f0 f1 f2 f3 f9 b_b1 l_b1
 rintro t H n ⟨f0, f1, f3, f9, f11, b_b1, l_b1⟩
 refine Stk.on ?_
 refine Stk.sq ?_
 refine Stk.sq ?_
 refine Stk.rg ?_
 refine Stk.run 3 (fun t H n => t 0 = .ssl (encs c4 a0) a0.length false ∧ t 1 = .ssl (encs c4 a1) a1.length false ∧ t 3 = .sc (.int .i64 a3) ∧ t 9 = .own b1 0 ∧ t 11 = .sc (.int .i64 (IntKind.i64.wrap ((a0.length : Int) - a2))) ∧ t 19 = .sc (.bool (decide ((IntKind.i64.wrap ((a0.length : Int) - a2)) < 0))) ∧ H b1 = some (.cells (c44 a4) 44) ∧ b1 < n) (fun J hJ => ?_) ?_
 ·simp [-splice, f0, f1, f3, f9, f11, b_b1]
  exact hJ _ _ _ ⟨by simp [f0], by simp [f1], by simp [f3], by simp [f9], by simp [f11], by simp [-splice, f0, f1, f3, f9, f11, b_b1], b_b1, l_b1⟩
 clear f0 f1 f3 f9 f11 b_b1 l_b1
 rintro t H n ⟨f0, f1, f3, f9, f11, f19, b_b1, l_b1⟩
 refine Stk.jo 7 (fun t H n => t 0 = .ssl (encs c4 a0) a0.length false ∧ t 1 = .ssl (encs c4 a1) a1.length false ∧ t 9 = .own b1 0 ∧ t 11 = .sc (.int .i64 (IntKind.i64.wrap ((a0.length : Int) - a2))) ∧ t 26 = .sc (.bool ((decide ((IntKind.i64.wrap ((a0.length : Int) - a2)) < 0)) || ((a1.length : Int) != (IntKind.i64.wrap ((IntKind.i64.wrap ((a0.length : Int) - a2)) + a3))))) ∧ H b1 = some (.cells (c44 a4) 44) ∧ b1 < n) (fun J1 hJ1 => ?_) ?_
 ·rcases Bool.eq_false_or_eq_true (decide ((IntKind.i64.wrap ((a0.length : Int) - a2)) < 0)) with hb1 | hb1
  ·rw [hb1] at f19
   refine Stk.run 7 (fun t H n => t 0 = .ssl (encs c4 a0) a0.length false ∧ t 1 = .ssl (encs c4 a1) a1.length false ∧ t 9 = .own b1 0 ∧ t 11 = .sc (.int .i64 (IntKind.i64.wrap ((a0.length : Int) - a2))) ∧ t 26 = .sc (.bool true) ∧ H b1 = some (.cells (c44 a4) 44) ∧ b1 < n) (fun J hJ => ?_) ?_
   ·simp [-splice, f0, f1, f3, f9, f11, f19, b_b1]
    exact hJ _ _ _ ⟨by simp [f0], by simp [f1], by simp [f9], by simp [f11], by simp [-splice, f0, f1, f3, f9, f11, f19, b_b1], b_b1, l_b1⟩
   clear f0 f1 f3 f9 f11 f19 b_b1 l_b1
   rintro t H n ⟨f0, f1, f9, f11, f26, b_b1, l_b1⟩
   refine Stk.on ?_
   exact Stk.ln 0 (by decide) (hJ1 _ _ _ ⟨f0, f1, f9, f11, f26.trans (congrArg (fun q => AV.sc (.bool q)) (by rw [hb1]; rfl)), b_b1, l_b1⟩)
  ·rw [hb1] at f19
   refine Stk.run 7 (fun t H n => t 0 = .ssl (encs c4 a0) a0.length false ∧ t 1 = .ssl (encs c4 a1) a1.length false ∧ t 9 = .own b1 0 ∧ t 11 = .sc (.int .i64 (IntKind.i64.wrap ((a0.length : Int) - a2))) ∧ t 26 = .sc (.bool ((a1.length : Int) != (IntKind.i64.wrap ((IntKind.i64.wrap ((a0.length : Int) - a2)) + a3)))) ∧ H b1 = some (.cells (c44 a4) 44) ∧ b1 < n) (fun J hJ => ?_) ?_
   ·simp [-splice, f0, f1, f3, f9, f11, f19, b_b1]
    exact hJ _ _ _ ⟨by simp [f0], by simp [f1], by simp [f9], by simp [f11], by simp [-splice, f0, f1, f3, f9, f11, f19, b_b1], b_b1, l_b1⟩
   clear f0 f1 f3 f9 f11 f19 b_b1 l_b1
   rintro t H n ⟨f0, f1, f9, f11, f26, b_b1, l_b1⟩
   refine Stk.on ?_
   exact Stk.ln 0 (by decide) (hJ1 _ _ _ ⟨f0, f1, f9, f11, f26.trans (congrArg (fun q => AV.sc (.bool q)) (by rw [hb1]; rfl)), b_b1, l_b1⟩)
 clear f0 f1 f3 f9 f11 f19 b_b1 l_b1
 rintro t H n ⟨f0, f1, f9, f11, f26, b_b1, l_b1⟩
 refine Stk.on ?_
 refine Stk.cond ((decide ((IntKind.i64.wrap ((a0.length : Int) - a2)) < 0)) || ((a1.length : Int) != (IntKind.i64.wrap ((IntKind.i64.wrap ((a0.length : Int) - a2)) + a3)))) (by exact f26) (fun hb2 => ?_) (fun hb2 => ?_)
 ·have h := cT hb2 h
  refine Stk.sq ?_
  refine Stk.rg ?_
  refine Stk.run 1 (fun t H n => t 10 = .sc (.bool false)) (fun J hJ => ?_) ?_
  ·simp [-splice, f0, f1, f9, f11, f26, b_b1]
   exact hJ _ _ _ (by simp [-splice, f0, f1, f9, f11, f26, b_b1])
  clear f0 f1 f9 f11 f26 b_b1 l_b1
  rintro t H n f10
  refine Stk.on ?_
  refine Stk.rt ?_
  have hq := Option.some.inj h; subst hq
  exact (hr _ _ _ (.sc (.bool false)) ([]) (by simp [f10]) (.inr (.inr (.free (rfl))))).1
 ·have h := cF hb2 h
  refine Stk.sk ?_
  refine Stk.sq ?_
  refine Stk.sq ?_
  refine Stk.rg ?_
  refine Stk.run 2 (fun t H n => t 0 = .ssl (encs c4 a0) a0.length false ∧ t 1 = .ssl (encs c4 a1) a1.length false ∧ t 9 = .own b1 0 ∧ t 11 = .sc (.int .i64 (IntKind.i64.wrap ((a0.length : Int) - a2))) ∧ t 27 = .sc (.int .i64 (IntKind.i64.wrap ((a0.length : Int) - a2))) ∧ t 28 = .sc (.int .i64 0) ∧ H b1 = some (.cells (c44 a4) 44) ∧ b1 < n) (fun J hJ => ?_) ?_
  ·simp [-splice, f0, f1, f9, f11, f26, b_b1]
   exact hJ _ _ _ ⟨by simp [f0], by simp [f1], by simp [f9], by simp [f11], by simp [-splice, f0, f1, f9, f11, f26, b_b1], by simp [-splice, f0, f1, f9, f11, f26, b_b1], b_b1, l_b1⟩
  clear f0 f1 f9 f11 f26 b_b1 l_b1
  rintro t H n ⟨f0, f1, f9, f11, f27, f28, b_b1, l_b1⟩
  refine Stk.on ?_
  obtain ⟨K2, hK2, h⟩ := jnd h
  refine Stk.jn (fun t H n => K2 () = some r ∧ t 0 = .ssl (encs c4 a0) a0.length false ∧ t 1 = .ssl (encs c4 a1) a1.length false ∧ t 9 = .own b1 0 ∧ t 11 = .sc (.int .i64 (IntKind.i64.wrap ((a0.length : Int) - a2))) ∧ H b1 = some (.cells (c44 a4) 44) ∧ b1 < n) trivial (fun J2 hJ2 => ?_) ?_
  ·skip
   refine Stk.bk ?_
   refine Stk.lo (fun μ t H n => ∃ v3 : Int, L21_leads_L0 F a0 a1 a2 a4 K2 μ v3 = some r ∧ t 0 = .ssl (encs c4 a0) a0.length false ∧ t 1 = .ssl (encs c4 a1) a1.length false ∧ t 9 = .own b1 0 ∧ t 11 = .sc (.int .i64 (IntKind.i64.wrap ((a0.length : Int) - a2))) ∧ t 27 = .sc (.int .i64 (IntKind.i64.wrap ((a0.length : Int) - a2))) ∧ t 28 = .sc (.int .i64 v3) ∧ H b1 = some (.cells (c44 a4) 44) ∧ b1 < n) F ⟨0, h, f0, f1, f9, f11, f27, f28, b_b1, l_b1⟩ ?_
   clear h f0 f1 f9 f11 f27 f28 b_b1 l_b1
   rintro J3 hJ3 μ t H n ⟨v3, h, f0, f1, f9, f11, f27, f28, b_b1, l_b1⟩
   cases μ with
   | zero => exact absurd h (by simp [L21_leads_L0])
   | succ μ =>
   rw [L21_leads_L0] at h
   refine Stk.sq ?_
   refine Stk.rg ?_
   refine Stk.run 1 (fun t H n => t 0 = .ssl (encs c4 a0) a0.length false ∧ t 1 = .ssl (encs c4 a1) a1.length false ∧ t 9 = .own b1 0 ∧ t 11 = .sc (.int .i64 (IntKind.i64.wrap ((a0.length : Int) - a2))) ∧ t 27 = .sc (.int .i64 (IntKind.i64.wrap ((a0.length : Int) - a2))) ∧ t 28 = .sc (.int .i64 v3) ∧ t 29 = .sc (.bool (decide (v3 < (IntKind.i64.wrap ((a0.length : Int) - a2))))) ∧ H b1 = some (.cells (c44 a4) 44) ∧ b1 < n) (fun J hJ => ?_) ?_
   ·simp [-splice, f0, f1, f9, f11, f27, f28, b_b1]
    exact hJ _ _ _ ⟨by simp [f0], by simp [f1], by simp [f9], by simp [f11], by simp [f27], by simp [f28], by simp [-splice, f0, f1, f9, f11, f27, f28, b_b1], b_b1, l_b1⟩
   clear f0 f1 f9 f11 f27 f28 b_b1 l_b1
   rintro t H n ⟨f0, f1, f9, f11, f27, f28, f29, b_b1, l_b1⟩
   refine Stk.on ?_
   refine Stk.sq ?_
   refine Stk.cond (decide (v3 < (IntKind.i64.wrap ((a0.length : Int) - a2)))) (by exact f29) (fun hb5 => ?_) (fun hb5 => ?_)
   ·have h := cT hb5 h
    refine Stk.sk ?_
    refine Stk.sq ?_
    refine Stk.bk ?_
    refine Stk.sq ?_
    refine Stk.rg ?_
    refine Stk.run 2 (fun t H n => t 0 = .ssl (encs c4 a0) a0.length false ∧ t 1 = .ssl (encs c4 a1) a1.length false ∧ t 9 = .own b1 0 ∧ t 11 = .sc (.int .i64 (IntKind.i64.wrap ((a0.length : Int) - a2))) ∧ t 12 = .sc (.int .i64 v3) ∧ t 27 = .sc (.int .i64 (IntKind.i64.wrap ((a0.length : Int) - a2))) ∧ t 28 = .sc (.int .i64 v3) ∧ H b1 = some (.cells (c44 a4) 44) ∧ b1 < n) (fun J hJ => ?_) ?_
    ·simp [-splice, f0, f1, f9, f11, f27, f28, f29, b_b1]
     exact hJ _ _ _ ⟨by simp [f0], by simp [f1], by simp [f9], by simp [f11], by simp [-splice, f0, f1, f9, f11, f27, f28, f29, b_b1], by simp [f27], by simp [f28], b_b1, l_b1⟩
    clear f0 f1 f9 f11 f27 f28 f29 b_b1 l_b1
    rintro t H n ⟨f0, f1, f9, f11, f12, f27, f28, b_b1, l_b1⟩
    refine Stk.on ?_
    refine Stk.sq ?_
    refine Stk.rg ?_
    obtain ⟨x6, hx6, h⟩ := bnd h
    obtain ⟨i0x6, i1x6, i2x6, _⟩ := idx_ok hx6
    have ex6_0_4 : partOf T.T 4 (encs c4 a0) (v3.toNat) = some (.sc (.bool x6)) := by
      have e0 := part_elem0 (e := c4) (z := 1) (T := T.T) (ty := 4) T.t4 (by decide) (by decide) hx6 0 (by decide)
      (try simp only [Nat.mul_one, Nat.add_zero] at e0)
      exact e0.trans rfl
    refine Stk.run 5 (fun t H n => t 0 = .ssl (encs c4 a0) a0.length false ∧ t 1 = .ssl (encs c4 a1) a1.length false ∧ t 9 = .own b1 0 ∧ t 11 = .sc (.int .i64 (IntKind.i64.wrap ((a0.length : Int) - a2))) ∧ t 12 = .sc (.int .i64 v3) ∧ t 27 = .sc (.int .i64 (IntKind.i64.wrap ((a0.length : Int) - a2))) ∧ t 28 = .sc (.int .i64 v3) ∧ t 35 = .sc (.bool x6) ∧ H b1 = some (.cells (c44 a4) 44) ∧ b1 < n) (fun J hJ => ?_) ?_
    ·simp [-splice, f0, f1, f9, f11, f12, f27, f28, b_b1, i0x6, i1x6, pd4, ex6_0_4]
     exact hJ _ _ _ ⟨by simp [f0], by simp [f1], by simp [f9], by simp [f11], by simp [f12], by simp [f27], by simp [f28], by simp [-splice, f0, f1, f9, f11, f12, f27, f28, b_b1, i0x6, i1x6, pd4, ex6_0_4], b_b1, l_b1⟩
    clear f0 f1 f9 f11 f12 f27 f28 b_b1 l_b1
    rintro t H n ⟨f0, f1, f9, f11, f12, f27, f28, f35, b_b1, l_b1⟩
    obtain ⟨K4, hK4, h⟩ := jnd h
    refine Stk.jo 6 (fun t H n => ∃ v7 : Bool, K4 v7 = some r ∧ t 0 = .ssl (encs c4 a0) a0.length false ∧ t 1 = .ssl (encs c4 a1) a1.length false ∧ t 9 = .own b1 0 ∧ t 11 = .sc (.int .i64 (IntKind.i64.wrap ((a0.length : Int) - a2))) ∧ t 12 = .sc (.int .i64 v3) ∧ t 27 = .sc (.int .i64 (IntKind.i64.wrap ((a0.length : Int) - a2))) ∧ t 28 = .sc (.int .i64 v3) ∧ t 41 = .sc (.bool v7) ∧ H b1 = some (.cells (c44 a4) 44) ∧ b1 < n) (fun J4 hJ4 => ?_) ?_
    ·rcases Bool.eq_false_or_eq_true x6 with hb4 | hb4
     ·rw [hb4] at f35
      replace h := cT hb4 h
      obtain ⟨x8, hx8, h⟩ := bnd h
      obtain ⟨i0x8, i1x8, i2x8, _⟩ := idx_ok hx8
      have ex8_0_4 : partOf T.T 4 (encs c4 a1) (v3.toNat) = some (.sc (.bool x8)) := by
        have e0 := part_elem0 (e := c4) (z := 1) (T := T.T) (ty := 4) T.t4 (by decide) (by decide) hx8 0 (by decide)
        (try simp only [Nat.mul_one, Nat.add_zero] at e0)
        exact e0.trans rfl
      refine Stk.run 6 (fun t H n => t 0 = .ssl (encs c4 a0) a0.length false ∧ t 1 = .ssl (encs c4 a1) a1.length false ∧ t 9 = .own b1 0 ∧ t 11 = .sc (.int .i64 (IntKind.i64.wrap ((a0.length : Int) - a2))) ∧ t 12 = .sc (.int .i64 v3) ∧ t 27 = .sc (.int .i64 (IntKind.i64.wrap ((a0.length : Int) - a2))) ∧ t 28 = .sc (.int .i64 v3) ∧ t 41 = .sc (.bool (!x8)) ∧ H b1 = some (.cells (c44 a4) 44) ∧ b1 < n) (fun J hJ => ?_) ?_
      ·simp [-splice, f0, f1, f9, f11, f12, f27, f28, f35, b_b1, i0x8, i1x8, pd4, ex8_0_4]
       exact hJ _ _ _ ⟨by simp [f0], by simp [f1], by simp [f9], by simp [f11], by simp [f12], by simp [f27], by simp [f28], by simp [-splice, f0, f1, f9, f11, f12, f27, f28, f35, b_b1, i0x8, i1x8, pd4, ex8_0_4], b_b1, l_b1⟩
      clear f0 f1 f9 f11 f12 f27 f28 f35 b_b1 l_b1
      rintro t H n ⟨f0, f1, f9, f11, f12, f27, f28, f41, b_b1, l_b1⟩
      refine Stk.on ?_
      exact Stk.ln 0 (by decide) (hJ4 _ _ _ ⟨(!x8), h, f0, f1, f9, f11, f12, f27, f28, f41, b_b1, l_b1⟩)
     ·rw [hb4] at f35
      replace h := cF hb4 h
      refine Stk.run 6 (fun t H n => t 0 = .ssl (encs c4 a0) a0.length false ∧ t 1 = .ssl (encs c4 a1) a1.length false ∧ t 9 = .own b1 0 ∧ t 11 = .sc (.int .i64 (IntKind.i64.wrap ((a0.length : Int) - a2))) ∧ t 12 = .sc (.int .i64 v3) ∧ t 27 = .sc (.int .i64 (IntKind.i64.wrap ((a0.length : Int) - a2))) ∧ t 28 = .sc (.int .i64 v3) ∧ t 41 = .sc (.bool false) ∧ H b1 = some (.cells (c44 a4) 44) ∧ b1 < n) (fun J hJ => ?_) ?_
      ·simp [-splice, f0, f1, f9, f11, f12, f27, f28, f35, b_b1]
       exact hJ _ _ _ ⟨by simp [f0], by simp [f1], by simp [f9], by simp [f11], by simp [f12], by simp [f27], by simp [f28], by simp [-splice, f0, f1, f9, f11, f12, f27, f28, f35, b_b1], b_b1, l_b1⟩
      clear f0 f1 f9 f11 f12 f27 f28 f35 b_b1 l_b1
      rintro t H n ⟨f0, f1, f9, f11, f12, f27, f28, f41, b_b1, l_b1⟩
      refine Stk.on ?_
      exact Stk.ln 0 (by decide) (hJ4 _ _ _ ⟨false, h, f0, f1, f9, f11, f12, f27, f28, f41, b_b1, l_b1⟩)
    clear h f0 f1 f9 f11 f12 f27 f28 f35 b_b1 l_b1
    rintro t H n ⟨v7, h, f0, f1, f9, f11, f12, f27, f28, f41, b_b1, l_b1⟩
    subst hK4
    refine Stk.run 1 (fun t H n => t 0 = .ssl (encs c4 a0) a0.length false ∧ t 1 = .ssl (encs c4 a1) a1.length false ∧ t 9 = .own b1 0 ∧ t 11 = .sc (.int .i64 (IntKind.i64.wrap ((a0.length : Int) - a2))) ∧ t 12 = .sc (.int .i64 v3) ∧ t 27 = .sc (.int .i64 (IntKind.i64.wrap ((a0.length : Int) - a2))) ∧ t 28 = .sc (.int .i64 v3) ∧ t 42 = .sc (.bool v7) ∧ H b1 = some (.cells (c44 a4) 44) ∧ b1 < n) (fun J hJ => ?_) ?_
    ·simp [-splice, f0, f1, f9, f11, f12, f27, f28, f41, b_b1]
     exact hJ _ _ _ ⟨by simp [f0], by simp [f1], by simp [f9], by simp [f11], by simp [f12], by simp [f27], by simp [f28], by simp [-splice, f0, f1, f9, f11, f12, f27, f28, f41, b_b1], b_b1, l_b1⟩
    clear f0 f1 f9 f11 f12 f27 f28 f41 b_b1 l_b1
    rintro t H n ⟨f0, f1, f9, f11, f12, f27, f28, f42, b_b1, l_b1⟩
    refine Stk.jo 11 (fun t H n => t 0 = .ssl (encs c4 a0) a0.length false ∧ t 1 = .ssl (encs c4 a1) a1.length false ∧ t 9 = .own b1 0 ∧ t 11 = .sc (.int .i64 (IntKind.i64.wrap ((a0.length : Int) - a2))) ∧ t 27 = .sc (.int .i64 (IntKind.i64.wrap ((a0.length : Int) - a2))) ∧ t 28 = .sc (.int .i64 v3) ∧ t 53 = .sc (.bool (v7 && (!((a4.Op == 14) && (a4.A == v3))))) ∧ H b1 = some (.cells (c44 a4) 44) ∧ b1 < n) (fun J5 hJ5 => ?_) ?_
    ·rcases Bool.eq_false_or_eq_true v7 with hb5 | hb5
     ·rw [hb5] at f42
      refine Stk.run 4 (fun t H n => t 0 = .ssl (encs c4 a0) a0.length false ∧ t 1 = .ssl (encs c4 a1) a1.length false ∧ t 9 = .own b1 0 ∧ t 11 = .sc (.int .i64 (IntKind.i64.wrap ((a0.length : Int) - a2))) ∧ t 12 = .sc (.int .i64 v3) ∧ t 27 = .sc (.int .i64 (IntKind.i64.wrap ((a0.length : Int) - a2))) ∧ t 28 = .sc (.int .i64 v3) ∧ t 42 = .sc (.bool true) ∧ t 46 = .sc (.bool (a4.Op == 14)) ∧ H b1 = some (.cells (c44 a4) 44) ∧ b1 < n) (fun J hJ => ?_) ?_
      ·simp [-splice, f0, f1, f9, f11, f12, f27, f28, f42, b_b1, ld_44_0_3]
       exact hJ _ _ _ ⟨by simp [f0], by simp [f1], by simp [f9], by simp [f11], by simp [f12], by simp [f27], by simp [f28], by simp [f42], by simp [-splice, f0, f1, f9, f11, f12, f27, f28, f42, b_b1, ld_44_0_3], b_b1, l_b1⟩
      clear f0 f1 f9 f11 f12 f27 f28 f42 b_b1 l_b1
      rintro t H n ⟨f0, f1, f9, f11, f12, f27, f28, f42, f46, b_b1, l_b1⟩
      refine Stk.jo 5 (fun t H n => t 0 = .ssl (encs c4 a0) a0.length false ∧ t 1 = .ssl (encs c4 a1) a1.length false ∧ t 9 = .own b1 0 ∧ t 11 = .sc (.int .i64 (IntKind.i64.wrap ((a0.length : Int) - a2))) ∧ t 27 = .sc (.int .i64 (IntKind.i64.wrap ((a0.length : Int) - a2))) ∧ t 28 = .sc (.int .i64 v3) ∧ t 42 = .sc (.bool true) ∧ t 51 = .sc (.bool ((a4.Op == 14) && (a4.A == v3))) ∧ H b1 = some (.cells (c44 a4) 44) ∧ b1 < n) (fun J6 hJ6 => ?_) ?_
      ·rcases Bool.eq_false_or_eq_true (a4.Op == 14) with hb6 | hb6
       ·rw [hb6] at f46
        refine Stk.run 5 (fun t H n => t 0 = .ssl (encs c4 a0) a0.length false ∧ t 1 = .ssl (encs c4 a1) a1.length false ∧ t 9 = .own b1 0 ∧ t 11 = .sc (.int .i64 (IntKind.i64.wrap ((a0.length : Int) - a2))) ∧ t 27 = .sc (.int .i64 (IntKind.i64.wrap ((a0.length : Int) - a2))) ∧ t 28 = .sc (.int .i64 v3) ∧ t 42 = .sc (.bool true) ∧ t 51 = .sc (.bool (a4.A == v3)) ∧ H b1 = some (.cells (c44 a4) 44) ∧ b1 < n) (fun J hJ => ?_) ?_
        ·simp [-splice, f0, f1, f9, f11, f12, f27, f28, f42, f46, b_b1, ld_44_1_3]
         exact hJ _ _ _ ⟨by simp [f0], by simp [f1], by simp [f9], by simp [f11], by simp [f27], by simp [f28], by simp [f42], by simp [-splice, f0, f1, f9, f11, f12, f27, f28, f42, f46, b_b1, ld_44_1_3], b_b1, l_b1⟩
        clear f0 f1 f9 f11 f12 f27 f28 f42 f46 b_b1 l_b1
        rintro t H n ⟨f0, f1, f9, f11, f27, f28, f42, f51, b_b1, l_b1⟩
        refine Stk.on ?_
        exact Stk.ln 0 (by decide) (hJ6 _ _ _ ⟨f0, f1, f9, f11, f27, f28, f42, f51.trans (congrArg (fun q => AV.sc (.bool q)) (by rw [hb6]; rfl)), b_b1, l_b1⟩)
       ·rw [hb6] at f46
        refine Stk.run 5 (fun t H n => t 0 = .ssl (encs c4 a0) a0.length false ∧ t 1 = .ssl (encs c4 a1) a1.length false ∧ t 9 = .own b1 0 ∧ t 11 = .sc (.int .i64 (IntKind.i64.wrap ((a0.length : Int) - a2))) ∧ t 27 = .sc (.int .i64 (IntKind.i64.wrap ((a0.length : Int) - a2))) ∧ t 28 = .sc (.int .i64 v3) ∧ t 42 = .sc (.bool true) ∧ t 51 = .sc (.bool false) ∧ H b1 = some (.cells (c44 a4) 44) ∧ b1 < n) (fun J hJ => ?_) ?_
        ·simp [-splice, f0, f1, f9, f11, f12, f27, f28, f42, f46, b_b1]
         exact hJ _ _ _ ⟨by simp [f0], by simp [f1], by simp [f9], by simp [f11], by simp [f27], by simp [f28], by simp [f42], by simp [-splice, f0, f1, f9, f11, f12, f27, f28, f42, f46, b_b1], b_b1, l_b1⟩
        clear f0 f1 f9 f11 f12 f27 f28 f42 f46 b_b1 l_b1
        rintro t H n ⟨f0, f1, f9, f11, f27, f28, f42, f51, b_b1, l_b1⟩
        refine Stk.on ?_
        exact Stk.ln 0 (by decide) (hJ6 _ _ _ ⟨f0, f1, f9, f11, f27, f28, f42, f51.trans (congrArg (fun q => AV.sc (.bool q)) (by rw [hb6]; rfl)), b_b1, l_b1⟩)
      clear f0 f1 f9 f11 f12 f27 f28 f42 f46 b_b1 l_b1
      rintro t H n ⟨f0, f1, f9, f11, f27, f28, f42, f51, b_b1, l_b1⟩
      refine Stk.run 2 (fun t H n => t 0 = .ssl (encs c4 a0) a0.length false ∧ t 1 = .ssl (encs c4 a1) a1.length false ∧ t 9 = .own b1 0 ∧ t 11 = .sc (.int .i64 (IntKind.i64.wrap ((a0.length : Int) - a2))) ∧ t 27 = .sc (.int .i64 (IntKind.i64.wrap ((a0.length : Int) - a2))) ∧ t 28 = .sc (.int .i64 v3) ∧ t 53 = .sc (.bool (!((a4.Op == 14) && (a4.A == v3)))) ∧ H b1 = some (.cells (c44 a4) 44) ∧ b1 < n) (fun J hJ => ?_) ?_
      ·simp [-splice, f0, f1, f9, f11, f27, f28, f42, f51, b_b1]
       exact hJ _ _ _ ⟨by simp [f0], by simp [f1], by simp [f9], by simp [f11], by simp [f27], by simp [f28], by simp [-splice, f0, f1, f9, f11, f27, f28, f42, f51, b_b1], b_b1, l_b1⟩
      clear f0 f1 f9 f11 f27 f28 f42 f51 b_b1 l_b1
      rintro t H n ⟨f0, f1, f9, f11, f27, f28, f53, b_b1, l_b1⟩
      refine Stk.on ?_
      exact Stk.ln 0 (by decide) (hJ5 _ _ _ ⟨f0, f1, f9, f11, f27, f28, f53.trans (congrArg (fun q => AV.sc (.bool q)) (by rw [hb5]; rfl)), b_b1, l_b1⟩)
     ·rw [hb5] at f42
      refine Stk.run 11 (fun t H n => t 0 = .ssl (encs c4 a0) a0.length false ∧ t 1 = .ssl (encs c4 a1) a1.length false ∧ t 9 = .own b1 0 ∧ t 11 = .sc (.int .i64 (IntKind.i64.wrap ((a0.length : Int) - a2))) ∧ t 27 = .sc (.int .i64 (IntKind.i64.wrap ((a0.length : Int) - a2))) ∧ t 28 = .sc (.int .i64 v3) ∧ t 53 = .sc (.bool false) ∧ H b1 = some (.cells (c44 a4) 44) ∧ b1 < n) (fun J hJ => ?_) ?_
      ·simp [-splice, f0, f1, f9, f11, f12, f27, f28, f42, b_b1]
       exact hJ _ _ _ ⟨by simp [f0], by simp [f1], by simp [f9], by simp [f11], by simp [f27], by simp [f28], by simp [-splice, f0, f1, f9, f11, f12, f27, f28, f42, b_b1], b_b1, l_b1⟩
      clear f0 f1 f9 f11 f12 f27 f28 f42 b_b1 l_b1
      rintro t H n ⟨f0, f1, f9, f11, f27, f28, f53, b_b1, l_b1⟩
      refine Stk.on ?_
      exact Stk.ln 0 (by decide) (hJ5 _ _ _ ⟨f0, f1, f9, f11, f27, f28, f53.trans (congrArg (fun q => AV.sc (.bool q)) (by rw [hb5]; rfl)), b_b1, l_b1⟩)
    clear f0 f1 f9 f11 f12 f27 f28 f42 b_b1 l_b1
    rintro t H n ⟨f0, f1, f9, f11, f27, f28, f53, b_b1, l_b1⟩
    refine Stk.on ?_
    refine Stk.cond (v7 && (!((a4.Op == 14) && (a4.A == v3)))) (by exact f53) (fun hb9 => ?_) (fun hb9 => ?_)
    ·have h := cT hb9 h
     refine Stk.sq ?_
     refine Stk.rg ?_
     refine Stk.run 1 (fun t H n => t 10 = .sc (.bool false)) (fun J hJ => ?_) ?_
     ·simp [-splice, f0, f1, f9, f11, f27, f28, f53, b_b1]
      exact hJ _ _ _ (by simp [-splice, f0, f1, f9, f11, f27, f28, f53, b_b1])
     clear f0 f1 f9 f11 f27 f28 f53 b_b1 l_b1
     rintro t H n f10
     refine Stk.on ?_
     refine Stk.rt ?_
     have hq := Option.some.inj h; subst hq
     exact (hr _ _ _ (.sc (.bool false)) ([]) (by simp [f10]) (.inr (.inr (.free (rfl))))).1
    ·have h := cF hb9 h
     refine Stk.sk ?_
     refine Stk.bn ?_
     refine Stk.rg ?_
     refine Stk.run 2 (fun t H n => t 0 = .ssl (encs c4 a0) a0.length false ∧ t 1 = .ssl (encs c4 a1) a1.length false ∧ t 9 = .own b1 0 ∧ t 11 = .sc (.int .i64 (IntKind.i64.wrap ((a0.length : Int) - a2))) ∧ t 27 = .sc (.int .i64 (IntKind.i64.wrap ((a0.length : Int) - a2))) ∧ t 28 = .sc (.int .i64 (IntKind.i64.wrap (v3 + 1))) ∧ H b1 = some (.cells (c44 a4) 44) ∧ b1 < n) (fun J hJ => ?_) ?_
     ·simp [-splice, f0, f1, f9, f11, f27, f28, f53, b_b1]
      exact hJ _ _ _ ⟨by simp [f0], by simp [f1], by simp [f9], by simp [f11], by simp [f27], by simp [-splice, f0, f1, f9, f11, f27, f28, f53, b_b1], b_b1, l_b1⟩
     clear f0 f1 f9 f11 f27 f28 f53 b_b1 l_b1
     rintro t H n ⟨f0, f1, f9, f11, f27, f28, b_b1, l_b1⟩
     refine Stk.on ?_
     exact Stk.ln μ (Nat.lt_succ_self _) (hJ3 _ _ _ _ ⟨(IntKind.i64.wrap (v3 + 1)), h, f0, f1, f9, f11, f27, f28, b_b1, l_b1⟩)
   ·have h := cF hb5 h
    refine Stk.ex rfl ?_
    exact Stk.ln 0 (by decide) (hJ2 _ _ _ ⟨h, f0, f1, f9, f11, b_b1, l_b1⟩)
  clear h f0 f1 f9 f11 f27 f28 b_b1 l_b1
  rintro t H n ⟨h, f0, f1, f9, f11, b_b1, l_b1⟩
  subst hK2
  refine Stk.sq ?_
  refine Stk.rg ?_
  refine Stk.run 4 (fun t H n => t 0 = .ssl (encs c4 a0) a0.length false ∧ t 1 = .ssl (encs c4 a1) a1.length false ∧ t 9 = .own b1 0 ∧ t 11 = .sc (.int .i64 (IntKind.i64.wrap ((a0.length : Int) - a2))) ∧ t 58 = .sc (.bool (a4.Op != 3)) ∧ H b1 = some (.cells (c44 a4) 44) ∧ b1 < n) (fun J hJ => ?_) ?_
  ·simp [-splice, f0, f1, f9, f11, b_b1, ld_44_0_3]
   exact hJ _ _ _ ⟨by simp [f0], by simp [f1], by simp [f9], by simp [f11], by simp [-splice, f0, f1, f9, f11, b_b1, ld_44_0_3], b_b1, l_b1⟩
  clear f0 f1 f9 f11 b_b1 l_b1
  rintro t H n ⟨f0, f1, f9, f11, f58, b_b1, l_b1⟩
  refine Stk.jo 4 (fun t H n => t 0 = .ssl (encs c4 a0) a0.length false ∧ t 1 = .ssl (encs c4 a1) a1.length false ∧ t 9 = .own b1 0 ∧ t 11 = .sc (.int .i64 (IntKind.i64.wrap ((a0.length : Int) - a2))) ∧ t 62 = .sc (.bool ((a4.Op != 3) && (a4.Op != 1))) ∧ H b1 = some (.cells (c44 a4) 44) ∧ b1 < n) (fun J7 hJ7 => ?_) ?_
  ·rcases Bool.eq_false_or_eq_true (a4.Op != 3) with hb7 | hb7
   ·rw [hb7] at f58
    refine Stk.run 4 (fun t H n => t 0 = .ssl (encs c4 a0) a0.length false ∧ t 1 = .ssl (encs c4 a1) a1.length false ∧ t 9 = .own b1 0 ∧ t 11 = .sc (.int .i64 (IntKind.i64.wrap ((a0.length : Int) - a2))) ∧ t 62 = .sc (.bool (a4.Op != 1)) ∧ H b1 = some (.cells (c44 a4) 44) ∧ b1 < n) (fun J hJ => ?_) ?_
    ·simp [-splice, f0, f1, f9, f11, f58, b_b1, ld_44_0_3]
     exact hJ _ _ _ ⟨by simp [f0], by simp [f1], by simp [f9], by simp [f11], by simp [-splice, f0, f1, f9, f11, f58, b_b1, ld_44_0_3], b_b1, l_b1⟩
    clear f0 f1 f9 f11 f58 b_b1 l_b1
    rintro t H n ⟨f0, f1, f9, f11, f62, b_b1, l_b1⟩
    refine Stk.on ?_
    exact Stk.ln 0 (by decide) (hJ7 _ _ _ ⟨f0, f1, f9, f11, f62.trans (congrArg (fun q => AV.sc (.bool q)) (by rw [hb7]; rfl)), b_b1, l_b1⟩)
   ·rw [hb7] at f58
    refine Stk.run 4 (fun t H n => t 0 = .ssl (encs c4 a0) a0.length false ∧ t 1 = .ssl (encs c4 a1) a1.length false ∧ t 9 = .own b1 0 ∧ t 11 = .sc (.int .i64 (IntKind.i64.wrap ((a0.length : Int) - a2))) ∧ t 62 = .sc (.bool false) ∧ H b1 = some (.cells (c44 a4) 44) ∧ b1 < n) (fun J hJ => ?_) ?_
    ·simp [-splice, f0, f1, f9, f11, f58, b_b1]
     exact hJ _ _ _ ⟨by simp [f0], by simp [f1], by simp [f9], by simp [f11], by simp [-splice, f0, f1, f9, f11, f58, b_b1], b_b1, l_b1⟩
    clear f0 f1 f9 f11 f58 b_b1 l_b1
    rintro t H n ⟨f0, f1, f9, f11, f62, b_b1, l_b1⟩
    refine Stk.on ?_
    exact Stk.ln 0 (by decide) (hJ7 _ _ _ ⟨f0, f1, f9, f11, f62.trans (congrArg (fun q => AV.sc (.bool q)) (by rw [hb7]; rfl)), b_b1, l_b1⟩)
  clear f0 f1 f9 f11 f58 b_b1 l_b1
  rintro t H n ⟨f0, f1, f9, f11, f62, b_b1, l_b1⟩
  refine Stk.run 1 (fun t H n => t 0 = .ssl (encs c4 a0) a0.length false ∧ t 1 = .ssl (encs c4 a1) a1.length false ∧ t 9 = .own b1 0 ∧ t 11 = .sc (.int .i64 (IntKind.i64.wrap ((a0.length : Int) - a2))) ∧ t 63 = .sc (.bool ((a4.Op != 3) && (a4.Op != 1))) ∧ H b1 = some (.cells (c44 a4) 44) ∧ b1 < n) (fun J hJ => ?_) ?_
  ·simp [-splice, f0, f1, f9, f11, f62, b_b1]
   exact hJ _ _ _ ⟨by simp [f0], by simp [f1], by simp [f9], by simp [f11], by simp [-splice, f0, f1, f9, f11, f62, b_b1], b_b1, l_b1⟩
  clear f0 f1 f9 f11 f62 b_b1 l_b1
  rintro t H n ⟨f0, f1, f9, f11, f63, b_b1, l_b1⟩
  refine Stk.jo 4 (fun t H n => t 0 = .ssl (encs c4 a0) a0.length false ∧ t 1 = .ssl (encs c4 a1) a1.length false ∧ t 9 = .own b1 0 ∧ t 11 = .sc (.int .i64 (IntKind.i64.wrap ((a0.length : Int) - a2))) ∧ t 67 = .sc (.bool (((a4.Op != 3) && (a4.Op != 1)) && (a4.Op != 6))) ∧ H b1 = some (.cells (c44 a4) 44) ∧ b1 < n) (fun J8 hJ8 => ?_) ?_
  ·rcases Bool.eq_false_or_eq_true ((a4.Op != 3) && (a4.Op != 1)) with hb8 | hb8
   ·rw [hb8] at f63
    refine Stk.run 4 (fun t H n => t 0 = .ssl (encs c4 a0) a0.length false ∧ t 1 = .ssl (encs c4 a1) a1.length false ∧ t 9 = .own b1 0 ∧ t 11 = .sc (.int .i64 (IntKind.i64.wrap ((a0.length : Int) - a2))) ∧ t 67 = .sc (.bool (a4.Op != 6)) ∧ H b1 = some (.cells (c44 a4) 44) ∧ b1 < n) (fun J hJ => ?_) ?_
    ·simp [-splice, f0, f1, f9, f11, f63, b_b1, ld_44_0_3]
     exact hJ _ _ _ ⟨by simp [f0], by simp [f1], by simp [f9], by simp [f11], by simp [-splice, f0, f1, f9, f11, f63, b_b1, ld_44_0_3], b_b1, l_b1⟩
    clear f0 f1 f9 f11 f63 b_b1 l_b1
    rintro t H n ⟨f0, f1, f9, f11, f67, b_b1, l_b1⟩
    refine Stk.on ?_
    exact Stk.ln 0 (by decide) (hJ8 _ _ _ ⟨f0, f1, f9, f11, f67.trans (congrArg (fun q => AV.sc (.bool q)) (by rw [hb8]; rfl)), b_b1, l_b1⟩)
   ·rw [hb8] at f63
    refine Stk.run 4 (fun t H n => t 0 = .ssl (encs c4 a0) a0.length false ∧ t 1 = .ssl (encs c4 a1) a1.length false ∧ t 9 = .own b1 0 ∧ t 11 = .sc (.int .i64 (IntKind.i64.wrap ((a0.length : Int) - a2))) ∧ t 67 = .sc (.bool false) ∧ H b1 = some (.cells (c44 a4) 44) ∧ b1 < n) (fun J hJ => ?_) ?_
    ·simp [-splice, f0, f1, f9, f11, f63, b_b1]
     exact hJ _ _ _ ⟨by simp [f0], by simp [f1], by simp [f9], by simp [f11], by simp [-splice, f0, f1, f9, f11, f63, b_b1], b_b1, l_b1⟩
    clear f0 f1 f9 f11 f63 b_b1 l_b1
    rintro t H n ⟨f0, f1, f9, f11, f67, b_b1, l_b1⟩
    refine Stk.on ?_
    exact Stk.ln 0 (by decide) (hJ8 _ _ _ ⟨f0, f1, f9, f11, f67.trans (congrArg (fun q => AV.sc (.bool q)) (by rw [hb8]; rfl)), b_b1, l_b1⟩)
  clear f0 f1 f9 f11 f63 b_b1 l_b1
  rintro t H n ⟨f0, f1, f9, f11, f67, b_b1, l_b1⟩
  refine Stk.run 1 (fun t H n => t 0 = .ssl (encs c4 a0) a0.length false ∧ t 1 = .ssl (encs c4 a1) a1.length false ∧ t 9 = .own b1 0 ∧ t 11 = .sc (.int .i64 (IntKind.i64.wrap ((a0.length : Int) - a2))) ∧ t 68 = .sc (.bool (((a4.Op != 3) && (a4.Op != 1)) && (a4.Op != 6))) ∧ H b1 = some (.cells (c44 a4) 44) ∧ b1 < n) (fun J hJ => ?_) ?_
  ·simp [-splice, f0, f1, f9, f11, f67, b_b1]
   exact hJ _ _ _ ⟨by simp [f0], by simp [f1], by simp [f9], by simp [f11], by simp [-splice, f0, f1, f9, f11, f67, b_b1], b_b1, l_b1⟩
  clear f0 f1 f9 f11 f67 b_b1 l_b1
  rintro t H n ⟨f0, f1, f9, f11, f68, b_b1, l_b1⟩
  obtain ⟨K9, hK9, h⟩ := jnd h
  refine Stk.jo 5 (fun t H n => ∃ v10 : Bool, K9 v10 = some r ∧ t 0 = .ssl (encs c4 a0) a0.length false ∧ t 1 = .ssl (encs c4 a1) a1.length false ∧ t 9 = .own b1 0 ∧ t 11 = .sc (.int .i64 (IntKind.i64.wrap ((a0.length : Int) - a2))) ∧ t 73 = .sc (.bool v10) ∧ H b1 = some (.cells (c44 a4) 44) ∧ b1 < n) (fun J9 hJ9 => ?_) ?_
  ·rcases Bool.eq_false_or_eq_true (((a4.Op != 3) && (a4.Op != 1)) && (a4.Op != 6)) with hb9 | hb9
   ·rw [hb9] at f68
    replace h := cT hb9 h
    refine Stk.run 5 (fun t H n => t 0 = .ssl (encs c4 a0) a0.length false ∧ t 1 = .ssl (encs c4 a1) a1.length false ∧ t 9 = .own b1 0 ∧ t 11 = .sc (.int .i64 (IntKind.i64.wrap ((a0.length : Int) - a2))) ∧ t 73 = .sc (.bool true) ∧ H b1 = some (.cells (c44 a4) 44) ∧ b1 < n) (fun J hJ => ?_) ?_
    ·simp [-splice, f0, f1, f9, f11, f68, b_b1]
     exact hJ _ _ _ ⟨by simp [f0], by simp [f1], by simp [f9], by simp [f11], by simp [-splice, f0, f1, f9, f11, f68, b_b1], b_b1, l_b1⟩
    clear f0 f1 f9 f11 f68 b_b1 l_b1
    rintro t H n ⟨f0, f1, f9, f11, f73, b_b1, l_b1⟩
    refine Stk.on ?_
    exact Stk.ln 0 (by decide) (hJ9 _ _ _ ⟨true, h, f0, f1, f9, f11, f73, b_b1, l_b1⟩)
   ·rw [hb9] at f68
    replace h := cF hb9 h
    obtain ⟨x11, hx11, h⟩ := bnd h
    obtain ⟨i0x11, i1x11, i2x11, _⟩ := idx_ok hx11
    have ex11_0_4 : partOf T.T 4 (encs c4 a1) ((IntKind.i64.wrap ((a0.length : Int) - a2)).toNat) = some (.sc (.bool x11)) := by
      have e0 := part_elem0 (e := c4) (z := 1) (T := T.T) (ty := 4) T.t4 (by decide) (by decide) hx11 0 (by decide)
      (try simp only [Nat.mul_one, Nat.add_zero] at e0)
      exact e0.trans rfl
    refine Stk.run 5 (fun t H n => t 0 = .ssl (encs c4 a0) a0.length false ∧ t 1 = .ssl (encs c4 a1) a1.length false ∧ t 9 = .own b1 0 ∧ t 11 = .sc (.int .i64 (IntKind.i64.wrap ((a0.length : Int) - a2))) ∧ t 73 = .sc (.bool x11) ∧ H b1 = some (.cells (c44 a4) 44) ∧ b1 < n) (fun J hJ => ?_) ?_
    ·simp [-splice, f0, f1, f9, f11, f68, b_b1, i0x11, i1x11, pd4, ex11_0_4]
     exact hJ _ _ _ ⟨by simp [f0], by simp [f1], by simp [f9], by simp [f11], by simp [-splice, f0, f1, f9, f11, f68, b_b1, i0x11, i1x11, pd4, ex11_0_4], b_b1, l_b1⟩
    clear f0 f1 f9 f11 f68 b_b1 l_b1
    rintro t H n ⟨f0, f1, f9, f11, f73, b_b1, l_b1⟩
    refine Stk.on ?_
    exact Stk.ln 0 (by decide) (hJ9 _ _ _ ⟨x11, h, f0, f1, f9, f11, f73, b_b1, l_b1⟩)
  clear h f0 f1 f9 f11 f68 b_b1 l_b1
  rintro t H n ⟨v10, h, f0, f1, f9, f11, f73, b_b1, l_b1⟩
  subst hK9
  refine Stk.run 1 (fun t H n => t 0 = .ssl (encs c4 a0) a0.length false ∧ t 1 = .ssl (encs c4 a1) a1.length false ∧ t 9 = .own b1 0 ∧ t 11 = .sc (.int .i64 (IntKind.i64.wrap ((a0.length : Int) - a2))) ∧ t 74 = .sc (.bool v10) ∧ H b1 = some (.cells (c44 a4) 44) ∧ b1 < n) (fun J hJ => ?_) ?_
  ·simp [-splice, f0, f1, f9, f11, f73, b_b1]
   exact hJ _ _ _ ⟨by simp [f0], by simp [f1], by simp [f9], by simp [f11], by simp [-splice, f0, f1, f9, f11, f73, b_b1], b_b1, l_b1⟩
  clear f0 f1 f9 f11 f73 b_b1 l_b1
  rintro t H n ⟨f0, f1, f9, f11, f74, b_b1, l_b1⟩
  obtain ⟨K10, hK10, h⟩ := jnd h
  refine Stk.jo 18 (fun t H n => ∃ v12 : Bool, K10 v12 = some r ∧ t 92 = .sc (.bool v12)) (fun J10 hJ10 => ?_) ?_
  ·rcases Bool.eq_false_or_eq_true v10 with hb10 | hb10
   ·rw [hb10] at f74
    replace h := cT hb10 h
    refine Stk.run 4 (fun t H n => t 0 = .ssl (encs c4 a0) a0.length false ∧ t 1 = .ssl (encs c4 a1) a1.length false ∧ t 9 = .own b1 0 ∧ t 11 = .sc (.int .i64 (IntKind.i64.wrap ((a0.length : Int) - a2))) ∧ t 74 = .sc (.bool true) ∧ t 78 = .sc (.bool (a4.Op != 2)) ∧ H b1 = some (.cells (c44 a4) 44) ∧ b1 < n) (fun J hJ => ?_) ?_
    ·simp [-splice, f0, f1, f9, f11, f74, b_b1, ld_44_0_3]
     exact hJ _ _ _ ⟨by simp [f0], by simp [f1], by simp [f9], by simp [f11], by simp [f74], by simp [-splice, f0, f1, f9, f11, f74, b_b1, ld_44_0_3], b_b1, l_b1⟩
    clear f0 f1 f9 f11 f74 b_b1 l_b1
    rintro t H n ⟨f0, f1, f9, f11, f74, f78, b_b1, l_b1⟩
    obtain ⟨K11, hK11, h⟩ := jnd h
    refine Stk.jo 7 (fun t H n => ∃ v13 : Bool, K11 v13 = some r ∧ t 1 = .ssl (encs c4 a1) a1.length false ∧ t 11 = .sc (.int .i64 (IntKind.i64.wrap ((a0.length : Int) - a2))) ∧ t 74 = .sc (.bool true) ∧ t 85 = .sc (.bool v13)) (fun J11 hJ11 => ?_) ?_
    ·rcases Bool.eq_false_or_eq_true (a4.Op != 2) with hb11 | hb11
     ·rw [hb11] at f78
      replace h := cT hb11 h
      refine Stk.run 7 (fun t H n => t 1 = .ssl (encs c4 a1) a1.length false ∧ t 11 = .sc (.int .i64 (IntKind.i64.wrap ((a0.length : Int) - a2))) ∧ t 74 = .sc (.bool true) ∧ t 85 = .sc (.bool true)) (fun J hJ => ?_) ?_
      ·simp [-splice, f0, f1, f9, f11, f74, f78, b_b1]
       exact hJ _ _ _ ⟨by simp [f1], by simp [f11], by simp [f74], by simp [-splice, f0, f1, f9, f11, f74, f78, b_b1]⟩
      clear f0 f1 f9 f11 f74 f78 b_b1 l_b1
      rintro t H n ⟨f1, f11, f74, f85⟩
      refine Stk.on ?_
      exact Stk.ln 0 (by decide) (hJ11 _ _ _ ⟨true, h, f1, f11, f74, f85⟩)
     ·rw [hb11] at f78
      replace h := cF hb11 h
      obtain ⟨x14, hx14, h⟩ := bnd h
      obtain ⟨i0x14, i1x14, i2x14, _⟩ := idx_ok hx14
      have ex14_0_4 : partOf T.T 4 (encs c4 a0) (a4.A.toNat) = some (.sc (.bool x14)) := by
        have e0 := part_elem0 (e := c4) (z := 1) (T := T.T) (ty := 4) T.t4 (by decide) (by decide) hx14 0 (by decide)
        (try simp only [Nat.mul_one, Nat.add_zero] at e0)
        exact e0.trans rfl
      refine Stk.run 7 (fun t H n => t 1 = .ssl (encs c4 a1) a1.length false ∧ t 11 = .sc (.int .i64 (IntKind.i64.wrap ((a0.length : Int) - a2))) ∧ t 74 = .sc (.bool true) ∧ t 85 = .sc (.bool (!x14))) (fun J hJ => ?_) ?_
      ·simp [-splice, f0, f1, f9, f11, f74, f78, b_b1, ld_44_1_3, i0x14, i1x14, pd4, ex14_0_4]
       exact hJ _ _ _ ⟨by simp [f1], by simp [f11], by simp [f74], by simp [-splice, f0, f1, f9, f11, f74, f78, b_b1, ld_44_1_3, i0x14, i1x14, pd4, ex14_0_4]⟩
      clear f0 f1 f9 f11 f74 f78 b_b1 l_b1
      rintro t H n ⟨f1, f11, f74, f85⟩
      refine Stk.on ?_
      exact Stk.ln 0 (by decide) (hJ11 _ _ _ ⟨(!x14), h, f1, f11, f74, f85⟩)
    clear h f0 f1 f9 f11 f74 f78 b_b1 l_b1
    rintro t H n ⟨v13, h, f1, f11, f74, f85⟩
    subst hK11
    refine Stk.run 1 (fun t H n => t 1 = .ssl (encs c4 a1) a1.length false ∧ t 11 = .sc (.int .i64 (IntKind.i64.wrap ((a0.length : Int) - a2))) ∧ t 74 = .sc (.bool true) ∧ t 86 = .sc (.bool v13)) (fun J hJ => ?_) ?_
    ·simp [-splice, f1, f11, f74, f85]
     exact hJ _ _ _ ⟨by simp [f1], by simp [f11], by simp [f74], by simp [-splice, f1, f11, f74, f85]⟩
    clear f1 f11 f74 f85
    rintro t H n ⟨f1, f11, f74, f86⟩
    obtain ⟨K12, hK12, h⟩ := jnd h
    refine Stk.jo 5 (fun t H n => ∃ v15 : Bool, K12 v15 = some r ∧ t 74 = .sc (.bool true) ∧ t 91 = .sc (.bool v15)) (fun J12 hJ12 => ?_) ?_
    ·rcases Bool.eq_false_or_eq_true v13 with hb12 | hb12
     ·rw [hb12] at f86
      replace h := cT hb12 h
      refine Stk.run 5 (fun t H n => t 74 = .sc (.bool true) ∧ t 91 = .sc (.bool true)) (fun J hJ => ?_) ?_
      ·simp [-splice, f1, f11, f74, f86]
       exact hJ _ _ _ ⟨by simp [f74], by simp [-splice, f1, f11, f74, f86]⟩
      clear f1 f11 f74 f86
      rintro t H n ⟨f74, f91⟩
      refine Stk.on ?_
      exact Stk.ln 0 (by decide) (hJ12 _ _ _ ⟨true, h, f74, f91⟩)
     ·rw [hb12] at f86
      replace h := cF hb12 h
      obtain ⟨x16, hx16, h⟩ := bnd h
      obtain ⟨i0x16, i1x16, i2x16, _⟩ := idx_ok hx16
      have ex16_0_4 : partOf T.T 4 (encs c4 a1) ((IntKind.i64.wrap ((a0.length : Int) - a2)).toNat) = some (.sc (.bool x16)) := by
        have e0 := part_elem0 (e := c4) (z := 1) (T := T.T) (ty := 4) T.t4 (by decide) (by decide) hx16 0 (by decide)
        (try simp only [Nat.mul_one, Nat.add_zero] at e0)
        exact e0.trans rfl
      refine Stk.run 5 (fun t H n => t 74 = .sc (.bool true) ∧ t 91 = .sc (.bool x16)) (fun J hJ => ?_) ?_
      ·simp [-splice, f1, f11, f74, f86, i0x16, i1x16, pd4, ex16_0_4]
       exact hJ _ _ _ ⟨by simp [f74], by simp [-splice, f1, f11, f74, f86, i0x16, i1x16, pd4, ex16_0_4]⟩
      clear f1 f11 f74 f86
      rintro t H n ⟨f74, f91⟩
      refine Stk.on ?_
      exact Stk.ln 0 (by decide) (hJ12 _ _ _ ⟨x16, h, f74, f91⟩)
    clear h f1 f11 f74 f86
    rintro t H n ⟨v15, h, f74, f91⟩
    subst hK12
    refine Stk.run 1 (fun t H n => t 92 = .sc (.bool v15)) (fun J hJ => ?_) ?_
    ·simp [-splice, f74, f91]
     exact hJ _ _ _ (by simp [-splice, f74, f91])
    clear f74 f91
    rintro t H n f92
    refine Stk.on ?_
    exact Stk.ln 0 (by decide) (hJ10 _ _ _ ⟨v15, h, f92⟩)
   ·rw [hb10] at f74
    replace h := cF hb10 h
    refine Stk.run 18 (fun t H n => t 92 = .sc (.bool false)) (fun J hJ => ?_) ?_
    ·simp [-splice, f0, f1, f9, f11, f74, b_b1]
     exact hJ _ _ _ (by simp [-splice, f0, f1, f9, f11, f74, b_b1])
    clear f0 f1 f9 f11 f74 b_b1 l_b1
    rintro t H n f92
    refine Stk.on ?_
    exact Stk.ln 0 (by decide) (hJ10 _ _ _ ⟨false, h, f92⟩)
  clear h f0 f1 f9 f11 f74 b_b1 l_b1
  rintro t H n ⟨v12, h, f92⟩
  subst hK10
  refine Stk.run 1 (fun t H n => t 10 = .sc (.bool v12)) (fun J hJ => ?_) ?_
  ·simp [-splice, f92]
   exact hJ _ _ _ (by simp [-splice, f92])
  clear f92
  rintro t H n f10
  refine Stk.on ?_
  refine Stk.rt ?_
  have hq := Option.some.inj h; subst hq
  exact (hr _ _ _ (.sc (.bool v12)) ([]) (by simp [f10]) (.inr (.inr (.free (rfl))))).1
end Go.Proofs.Ytcdafogfmijcpaa.M
