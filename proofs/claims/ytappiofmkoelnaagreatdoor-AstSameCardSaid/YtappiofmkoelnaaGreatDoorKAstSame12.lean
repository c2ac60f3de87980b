/-
  For AstSame: texts of the road to it, 13 of 16.
-/
import Derived.Test.YtappiofmkoelnaaGreatDoorKAstSame11
section
namespace Go.Proofs.YtappiofmkoelnaaGreatDoor.M
attribute [-simp] Go.Proofs.YtappiofmkoelnaaGreatDoorW.Ah.splice
open Go.Proofs.YtappiofmkoelnaaGreatDoorW.Ah Go.Proofs.YtappiofmkoelnaaGreatDoor
set_option linter.unusedVariables false
set_option linter.unusedSimpArgs false
set_option maxRecDepth 8000
attribute [local simp] T.t3 T.t4 T.t9 T.t22 T.t23 T.t24 T.t26 T.t33 T.t34 T.t36 T.t70 T.t72 T.t75 T.t77 T.t81 T.t83 T.t92 List.range List.range.loop
attribute [-simp] appendAV fillAV
theorem ok_ast_ownCon (F : Nat) (a0 : ACon) (r : ACon) (h : ast_ownCon F a0 = some r) : RunF Tryz.prog T.T 71 [.agg (c92 a0)] (.agg (c92 r)) := by
  rw [ast_ownCon] at h
  refine RunF.z Tryz.func71 rfl rfl rfl rfl rfl (fun C hr => ?_)
  refine gn (fun t H n => t 0 = .agg (c92 a0)) (by simp) fun t H n q => ?_
  apply eY 2; simp [q]
  refine gn (fun t H n => t 0 = .agg (c92 a0)) (by simp [q]) fun t H n q => ?_
  refine Stk.om (mop_box T.t92 (cs := c92 a0) (by show partOk (t 0) = true; rw [q]; rfl) (by show cellsOf (t 0) = _; rw [q]; rfl)) (by simp [q]) rfl (fun t' ht' => ?_)
  refine gn (fun t H n => ∃ b1, t 1 = .own b1 0 ∧ H b1 = some (.cells (c92 a0) 92) ∧ b1 < n) ⟨n, by simp [ht'], upd_same _ _ _, Nat.lt_succ_self _⟩ fun t H n ⟨b1, q⟩ => ?_
  refine Stk.oz T.t92 (cs := c92 (ACon.mk ⟨#[]⟩ [])) (by rfl) rfl (by simp [q]) rfl (fun t' ht' => ?_)
  refine gn (fun t H n => ∃ b2, t 1 = .own b1 0 ∧ t 2 = .own b2 0 ∧ H b1 = some (.cells (c92 a0) 92) ∧ b1 < n ∧ H b2 = some (.cells (c92 (ACon.mk ⟨#[]⟩ [])) 92) ∧ b2 < n ∧ b1 ≠ b2) ⟨n, j2 (by simp [ht', q]) ⟨(upd_ne _ _ (Nat.ne_of_lt q.2.2)).trans q.2.1, Nat.lt_succ_of_lt q.2.2, upd_same _ _ _, Nat.lt_succ_self _, Nat.ne_of_lt q.2.2⟩⟩ fun t H n ⟨b2, q⟩ => ?_
  obtain ⟨x3, hx3, h⟩ := bnd h
  apply eY 5; simp [q, ld_92_1_24]
  refine cw (ok_atu_AType F _ _ 66 [] [] (by simp [freeL, free]) (fun y0 r h => ok_ast_ownType F y0 r h) _ hx3) (by simp [q, ld_92_1_24]) rfl rfl (by simp [q, ld_92_1_24]) (.cons (.free (freeL_encs fr26 _)) (.cons (.fn .nil (.nil)) (.nil))) (freeL_encs fr26 _) ?_
  rintro _ rfl
  apply eY 1; simp [q, ld_92_1_24]
  refine Stk.om (mop_store (z := 1) (o := 1) (v := .ssl (encs c26 x3) x3.length false) rfl (by simp [q, ld_92_1_24]) q.2.2.1 (by simp [q, ld_92_1_24]) rfl (by rw [len92]; decide) rfl (st_92_1_24 _ _)) (by simp [q, ld_92_1_24]) rfl (fun t' ht' => ?_)
  refine gn (fun t H n => t 1 = .own b1 0 ∧ t 2 = .own b2 0 ∧ H b1 = some (.cells (c92 ({ a0 with Fields := x3 })) 92) ∧ b1 < n ∧ H b2 = some (.cells (c92 (ACon.mk ⟨#[]⟩ [])) 92) ∧ b2 < n ∧ b1 ≠ b2) (j2 (by simp [ht', q, ld_92_1_24]) ⟨upd_same _ _ _, q.2.2.2.1, (upd_ne _ _ (Ne.symm q.2.2.2.2.2.2)).trans q.2.2.2.2.1, q.2.2.2.2.2.1, q.2.2.2.2.2.2⟩) fun t H n q => ?_
  apply eY 4; simp [q, ld_92_0_92]
  refine Stk.om (mop_store (z := 2) (o := 0) (v := .agg (c92 ({ a0 with Fields := x3 }))) rfl (by simp [q, ld_92_0_92]) q.2.2.2.2.1 (by simp [q, ld_92_0_92]) (len92 _) (by rw [len92]; decide) (ok92 _) (st_92_0_92 _ _)) (by simp [q, ld_92_0_92]) rfl (fun t' ht' => ?_)
  refine gn (fun t H n => t 2 = .own b2 0 ∧ H b2 = some (.cells (c92 ({ a0 with Fields := x3 })) 92) ∧ b2 < n) ⟨by simp [ht', q, ld_92_0_92], upd_same _ _ _, q.2.2.2.2.2.1⟩ fun t H n q => ?_
  apply eY 2; simp [q]
  obtain rfl := sj h
  exact (hF hr (by simp [q, ld_92_0_92]) (by exact fr92 _)).1
@[simp] abbrev Q2_1 (b2 : Nat) (t : Nat → AV) (H : Mem) (n : Nat) : Prop := t 2 = .own b2 0 ∧ H b2 = some (.cells (c72 (AData.mk (APos.mk 0 0) ⟨#[]⟩ [])) 72) ∧ b2 < n
theorem ok_ast_Bare_1 (F : Nat) (a0 : AData) (r : AData) (h : ast_Bare_1 F a0 = some r) : RunF Tryz.prog T.T 69 [.agg (c72 a0)] (.agg (c72 r)) := by
  rw [ast_Bare_1] at h
  refine RunF.z Tryz.func69 rfl rfl rfl rfl rfl (fun C hr => ?_)
  refine gn (fun t H n => t 0 = .agg (c72 a0)) (by simp) fun t H n q => ?_
  apply eY 2; simp [q]
  refine gn (fun t H n => t 0 = .agg (c72 a0)) (by simp [q]) fun t H n q => ?_
  refine Stk.om (mop_box T.t72 (cs := c72 a0) (by show partOk (t 0) = true; rw [q]; rfl) (by show cellsOf (t 0) = _; rw [q]; rfl)) (by simp [q]) rfl (fun t' ht' => ?_)
  refine gn (fun t H n => ∃ b1, t 1 = .own b1 0 ∧ H b1 = some (.cells (c72 a0) 72) ∧ b1 < n) ⟨n, by simp [ht'], upd_same _ _ _, Nat.lt_succ_self _⟩ fun t H n ⟨b1, q⟩ => ?_
  refine Stk.oz T.t72 (cs := c72 (AData.mk (APos.mk 0 0) ⟨#[]⟩ [])) (by rfl) rfl (by simp [q]) rfl (fun t' ht' => ?_)
  refine gn (fun t H n => ∃ b2, t 1 = .own b1 0 ∧ t 2 = .own b2 0 ∧ H b1 = some (.cells (c72 a0) 72) ∧ b1 < n ∧ H b2 = some (.cells (c72 (AData.mk (APos.mk 0 0) ⟨#[]⟩ [])) 72) ∧ b2 < n ∧ b1 ≠ b2) ⟨n, j2 (by simp [ht', q]) ⟨(upd_ne _ _ (Nat.ne_of_lt q.2.2)).trans q.2.1, Nat.lt_succ_of_lt q.2.2, upd_same _ _ _, Nat.lt_succ_self _, Nat.ne_of_lt q.2.2⟩⟩ fun t H n ⟨b2, q⟩ => ?_
  apply eY 2; simp [q]
  refine gn (fun t H n => Q2_1 b2 t H n ∧ t 1 = .own b1 0 ∧ H b1 = some (.cells (c72 a0) 72) ∧ b1 < n ∧ b1 ≠ b2) (by simp [q]) fun t H n q => ?_
  obtain ⟨n0, hn0⟩ : ∃ m, m = n := ⟨n, rfl⟩
  have ln0 : n0 ≤ n := Nat.le_of_eq hn0
  refine Stk.rgD [.rd [], .rd [b1], .rd [], .rd [b1], .rd [], .rd [], .mem [b2] n0] none (by kernel_rfl) (drawOk2_ren [b1, b2] (by simp [q]) n0 [.rd [], .rd [0], .rd [], .rd [0], .rd [], .rd [], .mem [1] 0] rfl (by rfl)) rfl (by simp [below, hn0, q, hn0]) rfl ?_
  obtain ⟨x3, hx3, h⟩ := bnd h
  apply eY 4; simp [q, ld_72_2_9, ld_72_3_70]
  refine cx (ok_atu_ACon F _ _ 71 [] [] (by simp [ln0, freeL, free]) (fun y0 r h => ok_ast_ownCon F y0 r h) _ hx3) rfl rfl (by simp [q, ld_72_2_9, ld_72_3_70]) rfl rfl (by simp [q, ld_72_2_9, ld_72_3_70]) (.cons (.free (freeL_encs fr92 _)) (.cons (.fn .nil (.nil)) (.nil))) (freeL_encs fr92 _) ?_
  rintro _ rfl
  refine gn (fun t H n => Q2_1 b2 t H n ∧ t 4 = .sc (.string a0.Name) ∧ t 7 = .ssl (encs c92 x3) x3.length false ∧ n0 ≤ n) (by simp [q, ld_72_2_9, ld_72_3_70, ln0]) fun t H n q => ?_
  refine Stk.ovD rfl (by simp [q]) rfl (vop_build T.t72 rfl rfl (cs := c72 (AData.mk (APos.mk 0 0) ⟨#[]⟩ [])) (cs' := c72 (AData.mk (APos.mk 0 0) a0.Name x3)) rfl (.cons q.2.1 rfl rfl rfl rfl (rfl) (by rw [len72]; decide) (st_72_2_9 _ _) (.cons q.2.2.1 rfl rfl rfl rfl (rfl) (by rw [len72]; decide) (st_72_3_70 _ _) (.nil)))) (by simp [q]) rfl (fun t' ht' => ?_)
  refine gn (fun t H n => Q2_1 b2 t H n ∧ t 8 = .agg (c72 (AData.mk (APos.mk 0 0) a0.Name x3)) ∧ n0 ≤ n) (by simp [ht', q]) fun t H n q => ?_
  refine Stk.omD (S := [b2]) (b := n0) rfl (fun j hj hm => upd_ne _ _ (by simpa using hm)) rfl (mop_store (z := 4) rfl q.1.1 q.1.2.1 q.2.1 (len72 _) (by rw [len72]; decide) (ok72 _) (st_72_0_72 _ _)) (by simp [q]) rfl (fun t' ht' => ?_)
  refine gn (fun t H n => t 2 = .own b2 0 ∧ H b2 = some (.cells (c72 (AData.mk (APos.mk 0 0) a0.Name x3)) 72) ∧ b2 < n ∧ n0 ≤ n) ⟨by simp [ht', q], upd_same _ _ _, q.1.2.2, q.2.2⟩ fun t H n q => ?_
  apply eY 2; simp [q]
  obtain rfl := sj h
  exact (hF hr (by simp [q, ld_72_0_72]) (fr72 _)).1
@[simp] abbrev Q2_2 (a0 : (List AFun)) (caps1 : List AV) (first1 : List AV) (g1 : FuncId) (t : Nat → AV) : Prop := t 1 = .fn (.func g1) first1 caps1 ∧ t 8 = .ssl (encs c77 a0) a0.length false ∧ t 9 = .sc (.int .i64 (a0.length : Int))
theorem ok_atu_AFun (F : Nat) (a0 : (List AFun)) (φ1 : AFun → Option AFun) (g1 : FuncId) (first1 caps1 : List AV) (fr1 : freeL first1 = true ∧ freeL caps1 = true) (hφ1 : ∀ y0 r, φ1 y0 = some r → RunF Tryz.prog T.T g1 (first1 ++ [.agg (c77 y0)] ++ caps1) (.agg (c77 r))) (r : (List AFun)) (h : atu_AFun F a0 φ1 = some r) : RunF Tryz.prog T.T 72 [.ssl (encs c77 a0) a0.length false, .fn (.func g1) first1 caps1] (.ssl (encs c77 r) r.length false) := by
  rw [atu_AFun] at h
  refine RunF.z Tryz.func72 rfl rfl rfl rfl rfl (fun C hr => ?_)
  refine gn (fun t H n => t 0 = .ssl (encs c77 a0) a0.length false ∧ t 1 = .fn (.func g1) first1 caps1) ⟨by simp, by simp⟩ fun t H n q => ?_
  apply eY 6; simp [q]
  refine gn (fun t H n => t 0 = .ssl (encs c77 a0) a0.length false ∧ t 1 = .fn (.func g1) first1 caps1) (by simp [q]) fun t H n q => ?_
  refine Stk.run 1 (fun t H n => t 0 = .ssl (encs c77 a0) a0.length false ∧ t 1 = .fn (.func g1) first1 caps1 ∧ t 5 = .sc (.slice none 0 0)) (fun J hJ => ?_) ?_
  · simp [q]
    exact hJ _ _ _ ⟨by simp [q], by simp [q], by simp [q]⟩
  clear q
  rintro t H n q
  obtain ⟨o1, ho1⟩ : ∃ o : Option Nat, o = none := ⟨none, rfl⟩
  obtain ⟨co1, hco1⟩ : ∃ c : Option Nat, c = none := ⟨none, rfl⟩
  obtain ⟨f0, f1, f5⟩ := q
  replace f5 : t 5 = slc o1 ([] : List AFun).length co1 := by rw [ho1]; exact f5
  have b_o1 : OwnC H 77 15 c77 o1 co1 ([] : List AFun) := by rw [ho1]; exact rfl
  have l_o1 : ∀ i, o1 = some i → i < n := by rw [ho1]; intro i e; cases e
  apply eY 9; simp [f0, f1, f5, b_o1]
  refine gn (fun t H n => Q2_2 a0 caps1 first1 g1 t ∧ t 5 = slc o1 ([] : List AFun).length co1 ∧ t 10 = .sc (.int .i64 0) ∧ OwnC H 77 15 c77 o1 co1 ([] : List AFun) ∧ (∀ i, o1 = some i → i < n)) (by and_intros <;> first | assumption | simp [f0, f1, f5, b_o1]) fun t H n q => ?_
  refine Stk.lo (fun μ t H n => ∃ o2 : Option Nat, ∃ co2 : Option Nat, ∃ v3 : List AFun, ∃ v4 : Int, atu_AFun_L0 F a0 φ1 μ v3 v4 = some r ∧ t 1 = .fn (.func g1) first1 caps1 ∧ t 5 = slc o2 v3.length co2 ∧ t 8 = .ssl (encs c77 a0) a0.length false ∧ t 9 = .sc (.int .i64 (a0.length : Int)) ∧ t 10 = .sc (.int .i64 v4) ∧ OwnC H 77 15 c77 o2 co2 v3 ∧ (∀ i, o2 = some i → i < n)) F ⟨o1, co1, ([] : List AFun), 0, h, q.1.1, q.2.1, q.1.2.1, q.1.2.2, q.2.2.1, q.2.2.2.1, q.2.2.2.2⟩ ?_
  clear q h
  rintro J1 hJ1 μ t H n ⟨o2, co2, v3, v4, h, q⟩
  cases μ with
  | zero => exact absurd h (by simp [atu_AFun_L0])
  | succ μ =>
  rw [atu_AFun_L0] at h
  apply eY 5; simp [q]
  refine cd (decide (v4 < (a0.length : Int))) (by simp [q]) (fun hb8 => ?_) (fun hb8 => ?_)
  ·have h := cT hb8 h
   obtain ⟨x9, hx9, h⟩ := bnd h
   obtain ⟨i0x9, i1x9, i2x9, _⟩ := idx_ok hx9
   have ex9_0_77 : partOf T.T 77 (encs c77 a0) (v4.toNat * 15) = some (.agg (c77 x9)) := (part_elem0 (e := c77) (z := 15) (ty := 77) T.t77 (by decide) (by decide) hx9 0 (by decide)).trans (ld_77_0_77 _)
   apply eY 7; simp [q, i0x9, i1x9, pd77, ex9_0_77]
   refine Stk.oz T.t77 (cs := c77 (AFun.mk (APos.mk 0 0) ⟨#[]⟩ [] (AType.mk 0 ⟨#[]⟩ []) (AExpr.mk 0 (APos.mk 0 0) 0 [] ⟨#[]⟩ [] []))) (by rfl) rfl (by simp [q, i0x9, i1x9, pd77, ex9_0_77]) rfl (fun t' ht' => ?_)
   refine gn (fun t H n => ∃ b10, Q2_2 a0 caps1 first1 g1 t ∧ t 5 = slc o2 v3.length co2 ∧ t 7 = .own b10 0 ∧ t 10 = .sc (.int .i64 v4) ∧ t 13 = .agg (c77 x9) ∧ H b10 = some (.cells (c77 (AFun.mk (APos.mk 0 0) ⟨#[]⟩ [] (AType.mk 0 ⟨#[]⟩ []) (AExpr.mk 0 (APos.mk 0 0) 0 [] ⟨#[]⟩ [] []))) 77) ∧ b10 < n ∧ OwnC H 77 15 c77 o2 co2 v3 ∧ (∀ i, o2 = some i → i < n) ∧ (∀ i, o2 = some i → i ≠ b10)) ⟨n, j5 (by simp [ht', q, i0x9, i1x9, pd77, ex9_0_77]) ⟨upd_same _ _ _, Nat.lt_succ_self _, q.2.2.2.2.2.1.mono (fun i hi => upd_ne _ _ (Nat.ne_of_lt (q.2.2.2.2.2.2 i hi))), fun i hi => Nat.lt_succ_of_lt (q.2.2.2.2.2.2 i hi), fun i hi => Nat.ne_of_lt (q.2.2.2.2.2.2 i hi)⟩⟩ fun t H n ⟨b10, ⟨f1, f8, f9⟩, f5, f7, f10, f13, b_b10, l_b10, b_o2, l_o2, d_b10_o2⟩ => ?_
   refine Stk.om (mop_store (z := 15) rfl f7 b_b10 f13 (len77 _) (by rw [len77]; decide) (ok77 _) (st_77_0_77 _ _)) (by simp [f1, f5, f7, f8, f9, f10, f13]) rfl (fun t' ht' => ?_)
   refine gn (fun t H n => Q2_2 a0 caps1 first1 g1 t ∧ t 5 = slc o2 v3.length co2 ∧ t 7 = .own b10 0 ∧ t 10 = .sc (.int .i64 v4) ∧ H b10 = some (.cells (c77 x9) 77) ∧ b10 < n ∧ OwnC H 77 15 c77 o2 co2 v3 ∧ (∀ i, o2 = some i → i < n) ∧ (∀ i, o2 = some i → i ≠ b10)) (j4 (by simp [ht', f1, f8, f9, f5, f7, f10]) ⟨upd_same _ _ _, l_b10, b_o2.mono (fun i hi => upd_ne _ _ (d_b10_o2 i hi)), l_o2, d_b10_o2⟩) fun t H n q => ?_
   obtain ⟨x11, hx11, h⟩ := bnd h
   apply eY 5; simp [q, ld_77_0_77]
   refine Stk.cv (g := g1) (first := first1) (caps := caps1) (args := first1 ++ [.agg (c77 x9)] ++ caps1) (args' := first1 ++ [.agg (c77 x9)] ++ caps1) (v := .agg (c77 x11)) [] (hφ1 _ _ hx11) (by simp [q, ld_77_0_77]) rfl (by simp [q, ld_77_0_77]) (by simp [q, ld_77_0_77]) (viewL_mid (x := [.agg (c77 x9)]) (y := [.agg (c77 x9)]) fr1.1 fr1.2 (.cons (.free (fr77 _)) (.nil))) (.inl ⟨rfl, fr77 _⟩) ?_
   rintro _ rfl
   refine gn (fun t H n => Q2_2 a0 caps1 first1 g1 t ∧ t 10 = .sc (.int .i64 v4) ∧ t 14 = slc o2 v3.length co2 ∧ t 17 = .agg (c77 x11) ∧ OwnC H 77 15 c77 o2 co2 v3 ∧ (∀ i, o2 = some i → i < n)) (by have ⟨⟨_, _, _⟩, _, _, _, _, _, _, _, _⟩ := q; and_intros <;> first | assumption | simp [q, ld_77_0_77]) fun t H n q => ?_
   refine Stk.om (mop_buildN (c := c77) (z := 15) T.t23 rfl T.t77 rfl (by decide) rfl (by decide) [x11] rfl (.cons q.2.2.2.1 rfl rfl rfl (len77 _) (by simp [length_encs]) (splice_next (c := c77) [] _ x11 rfl (by simp)) (.nil))) (by simp [q]) rfl (fun t' ht' => ?_)
   refine gn (fun t H n => ∃ b12, Q2_2 a0 caps1 first1 g1 t ∧ t 10 = .sc (.int .i64 v4) ∧ t 14 = slc o2 v3.length co2 ∧ t 18 = .osl b12 0 ([x11] : List AFun).length (some ([x11] : List AFun).length) ∧ H b12 = some (.cells (encs c77 ([x11] : List AFun)) 77) ∧ b12 < n ∧ OwnC H 77 15 c77 o2 co2 v3 ∧ (∀ i, o2 = some i → i < n) ∧ (∀ i, o2 = some i → i ≠ b12)) ⟨n, j4 (by simp [ht', q]) ⟨upd_same _ _ _, Nat.lt_succ_self _, q.2.2.2.2.1.mono (fun i hi => upd_ne _ _ (Nat.ne_of_lt (q.2.2.2.2.2 i hi))), fun i hi => Nat.lt_succ_of_lt (q.2.2.2.2.2 i hi), fun i hi => Nat.ne_of_lt (q.2.2.2.2.2 i hi)⟩⟩ fun t H n ⟨b12, ⟨f1, f8, f9⟩, f10, f14, f18, b_b12, l_b12, b_o2, l_o2, d_b12_o2⟩ => ?_
   obtain ⟨x13, hx13, h⟩ := bnd h
   obtain ⟨r1x13, r2x13, r3x13⟩ := appM_ok hx13
   obtain ⟨o14, co14, H9, n9, e9, w9, le9, fr9, kp9⟩ := append_ownC (e := c77) (z := 15) (st := 23) T.t23 rfl T.t77 rfl (by decide) rfl (by decide) b_o2 l_o2 (y := .osl b12 0 ([x11] : List AFun).length (some ([x11] : List AFun).length)) ([x11] : List AFun) (elems_row b_b12 _) (all_encs ok77 _) r1x13 r2x13
   rw [r3x13] at e9 w9
   refine Stk.om ((mop_append T.t23 rfl).trans (by rw [show ev t (.tmp 14) = t 14 from rfl, f14]; rw [show ev t (.tmp 18) = t 18 from rfl, f18];  exact e9)) (by simp [f1, f8, f9, f10, f14, f18]) rfl (fun t' ht' => ?_)
   refine gn (fun t H n => Q2_2 a0 caps1 first1 g1 t ∧ t 10 = .sc (.int .i64 v4) ∧ t 19 = slc o14 x13.length co14 ∧ OwnC H 77 15 c77 o14 co14 x13 ∧ (∀ i, o14 = some i → i < n)) (j3 (by simp [ht', f1, f8, f9, f10]) ⟨w9, fun i hi => (fr9 i hi).2⟩) fun t H n q => ?_
   apply eY 7; simp [q]
   exact lm (hJ1 _ _ _ _ ⟨o14, co14, x13, (IntKind.i64.wrap (v4 + 1)), h, by have ⟨⟨_, _, _⟩, _, _, _, _⟩ := q; and_intros <;> first | assumption | simp [q]⟩)
  ·have h := cF hb8 h
   refine Stk.ex rfl ?_
   apply eY 6; simp [q]
   obtain rfl := sj h
   exact (hr _ _ _ (slc o2 v3.length co2) (o2.toList) (by simp [q]) (.inr (.inr (view_ownC fr77 q.2.2.2.2.2.1 (fun i hi => by simp [hi]))))).1
@[simp] abbrev Q2_3 (a0 : (List AParam)) (caps1 : List AV) (first1 : List AV) (g1 : FuncId) (t : Nat → AV) : Prop := t 1 = .fn (.func g1) first1 caps1 ∧ t 8 = .ssl (encs c81 a0) a0.length false ∧ t 9 = .sc (.int .i64 (a0.length : Int))
theorem ok_atu_AParam (F : Nat) (a0 : (List AParam)) (φ1 : AParam → Option AParam) (g1 : FuncId) (first1 caps1 : List AV) (fr1 : freeL first1 = true ∧ freeL caps1 = true) (hφ1 : ∀ y0 r, φ1 y0 = some r → RunF Tryz.prog T.T g1 (first1 ++ [.agg (c81 y0)] ++ caps1) (.agg (c81 r))) (r : (List AParam)) (h : atu_AParam F a0 φ1 = some r) : RunF Tryz.prog T.T 74 [.ssl (encs c81 a0) a0.length false, .fn (.func g1) first1 caps1] (.ssl (encs c81 r) r.length false) := by
  rw [atu_AParam] at h
  refine RunF.z Tryz.func74 rfl rfl rfl rfl rfl (fun C hr => ?_)
  refine gn (fun t H n => t 0 = .ssl (encs c81 a0) a0.length false ∧ t 1 = .fn (.func g1) first1 caps1) ⟨by simp, by simp⟩ fun t H n q => ?_
  apply eY 6; simp [q]
  refine gn (fun t H n => t 0 = .ssl (encs c81 a0) a0.length false ∧ t 1 = .fn (.func g1) first1 caps1) (by simp [q]) fun t H n q => ?_
  refine Stk.run 1 (fun t H n => t 0 = .ssl (encs c81 a0) a0.length false ∧ t 1 = .fn (.func g1) first1 caps1 ∧ t 5 = .sc (.slice none 0 0)) (fun J hJ => ?_) ?_
  · simp [q]
    exact hJ _ _ _ ⟨by simp [q], by simp [q], by simp [q]⟩
  clear q
  rintro t H n q
  obtain ⟨o1, ho1⟩ : ∃ o : Option Nat, o = none := ⟨none, rfl⟩
  obtain ⟨co1, hco1⟩ : ∃ c : Option Nat, c = none := ⟨none, rfl⟩
  obtain ⟨f0, f1, f5⟩ := q
  replace f5 : t 5 = slc o1 ([] : List AParam).length co1 := by rw [ho1]; exact f5
  have b_o1 : OwnC H 81 4 c81 o1 co1 ([] : List AParam) := by rw [ho1]; exact rfl
  have l_o1 : ∀ i, o1 = some i → i < n := by rw [ho1]; intro i e; cases e
  apply eY 9; simp [f0, f1, f5, b_o1]
  refine gn (fun t H n => Q2_3 a0 caps1 first1 g1 t ∧ t 5 = slc o1 ([] : List AParam).length co1 ∧ t 10 = .sc (.int .i64 0) ∧ OwnC H 81 4 c81 o1 co1 ([] : List AParam) ∧ (∀ i, o1 = some i → i < n)) (by and_intros <;> first | assumption | simp [f0, f1, f5, b_o1]) fun t H n q => ?_
  refine Stk.lo (fun μ t H n => ∃ o2 : Option Nat, ∃ co2 : Option Nat, ∃ v3 : List AParam, ∃ v4 : Int, atu_AParam_L0 F a0 φ1 μ v3 v4 = some r ∧ t 1 = .fn (.func g1) first1 caps1 ∧ t 5 = slc o2 v3.length co2 ∧ t 8 = .ssl (encs c81 a0) a0.length false ∧ t 9 = .sc (.int .i64 (a0.length : Int)) ∧ t 10 = .sc (.int .i64 v4) ∧ OwnC H 81 4 c81 o2 co2 v3 ∧ (∀ i, o2 = some i → i < n)) F ⟨o1, co1, ([] : List AParam), 0, h, q.1.1, q.2.1, q.1.2.1, q.1.2.2, q.2.2.1, q.2.2.2.1, q.2.2.2.2⟩ ?_
  clear q h
  rintro J1 hJ1 μ t H n ⟨o2, co2, v3, v4, h, q⟩
  cases μ with
  | zero => exact absurd h (by simp [atu_AParam_L0])
  | succ μ =>
  rw [atu_AParam_L0] at h
  apply eY 5; simp [q]
  refine cd (decide (v4 < (a0.length : Int))) (by simp [q]) (fun hb8 => ?_) (fun hb8 => ?_)
  ·have h := cT hb8 h
   obtain ⟨x9, hx9, h⟩ := bnd h
   obtain ⟨i0x9, i1x9, i2x9, _⟩ := idx_ok hx9
   have ex9_0_81 : partOf T.T 81 (encs c81 a0) (v4.toNat * 4) = some (.agg (c81 x9)) := (part_elem0 (e := c81) (z := 4) (ty := 81) T.t81 (by decide) (by decide) hx9 0 (by decide)).trans (ld_81_0_81 _)
   apply eY 7; simp [q, i0x9, i1x9, pd81, ex9_0_81]
   refine Stk.oz T.t81 (cs := c81 (AParam.mk ⟨#[]⟩ (AType.mk 0 ⟨#[]⟩ []))) (by rfl) rfl (by simp [q, i0x9, i1x9, pd81, ex9_0_81]) rfl (fun t' ht' => ?_)
   refine gn (fun t H n => ∃ b10, Q2_3 a0 caps1 first1 g1 t ∧ t 5 = slc o2 v3.length co2 ∧ t 7 = .own b10 0 ∧ t 10 = .sc (.int .i64 v4) ∧ t 13 = .agg (c81 x9) ∧ H b10 = some (.cells (c81 (AParam.mk ⟨#[]⟩ (AType.mk 0 ⟨#[]⟩ []))) 81) ∧ b10 < n ∧ OwnC H 81 4 c81 o2 co2 v3 ∧ (∀ i, o2 = some i → i < n) ∧ (∀ i, o2 = some i → i ≠ b10)) ⟨n, j5 (by simp [ht', q, i0x9, i1x9, pd81, ex9_0_81]) ⟨upd_same _ _ _, Nat.lt_succ_self _, q.2.2.2.2.2.1.mono (fun i hi => upd_ne _ _ (Nat.ne_of_lt (q.2.2.2.2.2.2 i hi))), fun i hi => Nat.lt_succ_of_lt (q.2.2.2.2.2.2 i hi), fun i hi => Nat.ne_of_lt (q.2.2.2.2.2.2 i hi)⟩⟩ fun t H n ⟨b10, ⟨f1, f8, f9⟩, f5, f7, f10, f13, b_b10, l_b10, b_o2, l_o2, d_b10_o2⟩ => ?_
   refine Stk.om (mop_store (z := 4) rfl f7 b_b10 f13 (len81 _) (by rw [len81]; decide) (ok81 _) (st_81_0_81 _ _)) (by simp [f1, f5, f7, f8, f9, f10, f13]) rfl (fun t' ht' => ?_)
   refine gn (fun t H n => Q2_3 a0 caps1 first1 g1 t ∧ t 5 = slc o2 v3.length co2 ∧ t 7 = .own b10 0 ∧ t 10 = .sc (.int .i64 v4) ∧ H b10 = some (.cells (c81 x9) 81) ∧ b10 < n ∧ OwnC H 81 4 c81 o2 co2 v3 ∧ (∀ i, o2 = some i → i < n) ∧ (∀ i, o2 = some i → i ≠ b10)) (j4 (by simp [ht', f1, f8, f9, f5, f7, f10]) ⟨upd_same _ _ _, l_b10, b_o2.mono (fun i hi => upd_ne _ _ (d_b10_o2 i hi)), l_o2, d_b10_o2⟩) fun t H n q => ?_
   obtain ⟨x11, hx11, h⟩ := bnd h
   apply eY 5; simp [q, ld_81_0_81]
   refine Stk.cv (g := g1) (first := first1) (caps := caps1) (args := first1 ++ [.agg (c81 x9)] ++ caps1) (args' := first1 ++ [.agg (c81 x9)] ++ caps1) (v := .agg (c81 x11)) [] (hφ1 _ _ hx11) (by simp [q, ld_81_0_81]) rfl (by simp [q, ld_81_0_81]) (by simp [q, ld_81_0_81]) (viewL_mid (x := [.agg (c81 x9)]) (y := [.agg (c81 x9)]) fr1.1 fr1.2 (.cons (.free (fr81 _)) (.nil))) (.inl ⟨rfl, fr81 _⟩) ?_
   rintro _ rfl
   refine gn (fun t H n => Q2_3 a0 caps1 first1 g1 t ∧ t 10 = .sc (.int .i64 v4) ∧ t 14 = slc o2 v3.length co2 ∧ t 17 = .agg (c81 x11) ∧ OwnC H 81 4 c81 o2 co2 v3 ∧ (∀ i, o2 = some i → i < n)) (by have ⟨⟨_, _, _⟩, _, _, _, _, _, _, _, _⟩ := q; and_intros <;> first | assumption | simp [q, ld_81_0_81]) fun t H n q => ?_
   refine Stk.om (mop_buildN (c := c81) (z := 4) T.t75 rfl T.t81 rfl (by decide) rfl (by decide) [x11] rfl (.cons q.2.2.2.1 rfl rfl rfl (len81 _) (by simp [length_encs]) (splice_next (c := c81) [] _ x11 rfl (by simp)) (.nil))) (by simp [q]) rfl (fun t' ht' => ?_)
   refine gn (fun t H n => ∃ b12, Q2_3 a0 caps1 first1 g1 t ∧ t 10 = .sc (.int .i64 v4) ∧ t 14 = slc o2 v3.length co2 ∧ t 18 = .osl b12 0 ([x11] : List AParam).length (some ([x11] : List AParam).length) ∧ H b12 = some (.cells (encs c81 ([x11] : List AParam)) 81) ∧ b12 < n ∧ OwnC H 81 4 c81 o2 co2 v3 ∧ (∀ i, o2 = some i → i < n) ∧ (∀ i, o2 = some i → i ≠ b12)) ⟨n, j4 (by simp [ht', q]) ⟨upd_same _ _ _, Nat.lt_succ_self _, q.2.2.2.2.1.mono (fun i hi => upd_ne _ _ (Nat.ne_of_lt (q.2.2.2.2.2 i hi))), fun i hi => Nat.lt_succ_of_lt (q.2.2.2.2.2 i hi), fun i hi => Nat.ne_of_lt (q.2.2.2.2.2 i hi)⟩⟩ fun t H n ⟨b12, ⟨f1, f8, f9⟩, f10, f14, f18, b_b12, l_b12, b_o2, l_o2, d_b12_o2⟩ => ?_
   obtain ⟨x13, hx13, h⟩ := bnd h
   obtain ⟨r1x13, r2x13, r3x13⟩ := appM_ok hx13
   obtain ⟨o14, co14, H9, n9, e9, w9, le9, fr9, kp9⟩ := append_ownC (e := c81) (z := 4) (st := 75) T.t75 rfl T.t81 rfl (by decide) rfl (by decide) b_o2 l_o2 (y := .osl b12 0 ([x11] : List AParam).length (some ([x11] : List AParam).length)) ([x11] : List AParam) (elems_row b_b12 _) (all_encs ok81 _) r1x13 r2x13
   rw [r3x13] at e9 w9
   refine Stk.om ((mop_append T.t75 rfl).trans (by rw [show ev t (.tmp 14) = t 14 from rfl, f14]; rw [show ev t (.tmp 18) = t 18 from rfl, f18];  exact e9)) (by simp [f1, f8, f9, f10, f14, f18]) rfl (fun t' ht' => ?_)
   refine gn (fun t H n => Q2_3 a0 caps1 first1 g1 t ∧ t 10 = .sc (.int .i64 v4) ∧ t 19 = slc o14 x13.length co14 ∧ OwnC H 81 4 c81 o14 co14 x13 ∧ (∀ i, o14 = some i → i < n)) (j3 (by simp [ht', f1, f8, f9, f10]) ⟨w9, fun i hi => (fr9 i hi).2⟩) fun t H n q => ?_
   apply eY 7; simp [q]
   exact lm (hJ1 _ _ _ _ ⟨o14, co14, x13, (IntKind.i64.wrap (v4 + 1)), h, by have ⟨⟨_, _, _⟩, _, _, _, _⟩ := q; and_intros <;> first | assumption | simp [q]⟩)
  ·have h := cF hb8 h
   refine Stk.ex rfl ?_
   apply eY 6; simp [q]
   obtain rfl := sj h
   exact (hr _ _ _ (slc o2 v3.length co2) (o2.toList) (by simp [q]) (.inr (.inr (view_ownC fr81 q.2.2.2.2.2.1 (fun i hi => by simp [hi]))))).1
theorem ok_ast_ownParam (F : Nat) (a0 : AParam) (r : AParam) (h : ast_ownParam F a0 = some r) : RunF Tryz.prog T.T 75 [.agg (c81 a0)] (.agg (c81 r)) := by
  rw [ast_ownParam] at h
  refine RunF.z Tryz.func75 rfl rfl rfl rfl rfl (fun C hr => ?_)
  refine gn (fun t H n => t 0 = .agg (c81 a0)) (by simp) fun t H n q => ?_
  apply eY 2; simp [q]
  refine gn (fun t H n => t 0 = .agg (c81 a0)) (by simp [q]) fun t H n q => ?_
  refine Stk.om (mop_box T.t81 (cs := c81 a0) (by show partOk (t 0) = true; rw [q]; rfl) (by show cellsOf (t 0) = _; rw [q]; rfl)) (by simp [q]) rfl (fun t' ht' => ?_)
  refine gn (fun t H n => ∃ b1, t 1 = .own b1 0 ∧ H b1 = some (.cells (c81 a0) 81) ∧ b1 < n) ⟨n, by simp [ht'], upd_same _ _ _, Nat.lt_succ_self _⟩ fun t H n ⟨b1, q⟩ => ?_
  refine Stk.oz T.t81 (cs := c81 (AParam.mk ⟨#[]⟩ (AType.mk 0 ⟨#[]⟩ []))) (by rfl) rfl (by simp [q]) rfl (fun t' ht' => ?_)
  refine gn (fun t H n => ∃ b2, t 1 = .own b1 0 ∧ t 2 = .own b2 0 ∧ H b1 = some (.cells (c81 a0) 81) ∧ b1 < n ∧ H b2 = some (.cells (c81 (AParam.mk ⟨#[]⟩ (AType.mk 0 ⟨#[]⟩ []))) 81) ∧ b2 < n ∧ b1 ≠ b2) ⟨n, j2 (by simp [ht', q]) ⟨(upd_ne _ _ (Nat.ne_of_lt q.2.2)).trans q.2.1, Nat.lt_succ_of_lt q.2.2, upd_same _ _ _, Nat.lt_succ_self _, Nat.ne_of_lt q.2.2⟩⟩ fun t H n ⟨b2, q⟩ => ?_
  obtain ⟨x3, hx3, h⟩ := bnd h
  apply eY 5; simp [q, ld_81_1_26]
  refine cw (ok_ast_ownType F _ _ hx3) (by simp [q, ld_81_1_26]) rfl rfl (by simp [q, ld_81_1_26]) (.cons (.free (fr26 _)) (.nil)) (fr26 _) ?_
  rintro _ rfl
  apply eY 1; simp [q, ld_81_1_26]
  refine Stk.om (mop_store (z := 3) (o := 1) (v := .agg (c26 x3)) rfl (by simp [q, ld_81_1_26]) q.2.2.1 (by simp [q, ld_81_1_26]) (len26 _) (by rw [len81]; decide) (ok26 _) (st_81_1_26 _ _)) (by simp [q, ld_81_1_26]) rfl (fun t' ht' => ?_)
  refine gn (fun t H n => t 1 = .own b1 0 ∧ t 2 = .own b2 0 ∧ H b1 = some (.cells (c81 ({ a0 with Type_ := x3 })) 81) ∧ b1 < n ∧ H b2 = some (.cells (c81 (AParam.mk ⟨#[]⟩ (AType.mk 0 ⟨#[]⟩ []))) 81) ∧ b2 < n ∧ b1 ≠ b2) (j2 (by simp [ht', q, ld_81_1_26]) ⟨upd_same _ _ _, q.2.2.2.1, (upd_ne _ _ (Ne.symm q.2.2.2.2.2.2)).trans q.2.2.2.2.1, q.2.2.2.2.2.1, q.2.2.2.2.2.2⟩) fun t H n q => ?_
  apply eY 4; simp [q, ld_81_0_81]
  refine Stk.om (mop_store (z := 4) (o := 0) (v := .agg (c81 ({ a0 with Type_ := x3 }))) rfl (by simp [q, ld_81_0_81]) q.2.2.2.2.1 (by simp [q, ld_81_0_81]) (len81 _) (by rw [len81]; decide) (ok81 _) (st_81_0_81 _ _)) (by simp [q, ld_81_0_81]) rfl (fun t' ht' => ?_)
  refine gn (fun t H n => t 2 = .own b2 0 ∧ H b2 = some (.cells (c81 ({ a0 with Type_ := x3 })) 81) ∧ b2 < n) ⟨by simp [ht', q, ld_81_0_81], upd_same _ _ _, q.2.2.2.2.2.1⟩ fun t H n q => ?_
  apply eY 2; simp [q]
  obtain rfl := sj h
  exact (hF hr (by simp [q, ld_81_0_81]) (by exact fr81 _)).1
@[simp] abbrev Q2_4 (b2 : Nat) (t : Nat → AV) (H : Mem) (n : Nat) : Prop := t 2 = .own b2 0 ∧ H b2 = some (.cells (c77 (AFun.mk (APos.mk 0 0) ⟨#[]⟩ [] (AType.mk 0 ⟨#[]⟩ []) (AExpr.mk 0 (APos.mk 0 0) 0 [] ⟨#[]⟩ [] []))) 77) ∧ b2 < n
theorem ok_ast_Bare_2 (F : Nat) (a0 : AFun) (r : AFun) (h : ast_Bare_2 F a0 = some r) : RunF Tryz.prog T.T 73 [.agg (c77 a0)] (.agg (c77 r)) := by
  rw [ast_Bare_2] at h
  refine RunF.z Tryz.func73 rfl rfl rfl rfl rfl (fun C hr => ?_)
  refine gn (fun t H n => t 0 = .agg (c77 a0)) (by simp) fun t H n q => ?_
  apply eY 2; simp [q]
  refine gn (fun t H n => t 0 = .agg (c77 a0)) (by simp [q]) fun t H n q => ?_
  refine Stk.om (mop_box T.t77 (cs := c77 a0) (by show partOk (t 0) = true; rw [q]; rfl) (by show cellsOf (t 0) = _; rw [q]; rfl)) (by simp [q]) rfl (fun t' ht' => ?_)
  refine gn (fun t H n => ∃ b1, t 1 = .own b1 0 ∧ H b1 = some (.cells (c77 a0) 77) ∧ b1 < n) ⟨n, by simp [ht'], upd_same _ _ _, Nat.lt_succ_self _⟩ fun t H n ⟨b1, q⟩ => ?_
  refine Stk.oz T.t77 (cs := c77 (AFun.mk (APos.mk 0 0) ⟨#[]⟩ [] (AType.mk 0 ⟨#[]⟩ []) (AExpr.mk 0 (APos.mk 0 0) 0 [] ⟨#[]⟩ [] []))) (by rfl) rfl (by simp [q]) rfl (fun t' ht' => ?_)
  refine gn (fun t H n => ∃ b2, t 1 = .own b1 0 ∧ t 2 = .own b2 0 ∧ H b1 = some (.cells (c77 a0) 77) ∧ b1 < n ∧ H b2 = some (.cells (c77 (AFun.mk (APos.mk 0 0) ⟨#[]⟩ [] (AType.mk 0 ⟨#[]⟩ []) (AExpr.mk 0 (APos.mk 0 0) 0 [] ⟨#[]⟩ [] []))) 77) ∧ b2 < n ∧ b1 ≠ b2) ⟨n, j2 (by simp [ht', q]) ⟨(upd_ne _ _ (Nat.ne_of_lt q.2.2)).trans q.2.1, Nat.lt_succ_of_lt q.2.2, upd_same _ _ _, Nat.lt_succ_self _, Nat.ne_of_lt q.2.2⟩⟩ fun t H n ⟨b2, q⟩ => ?_
  apply eY 2; simp [q]
  refine gn (fun t H n => Q2_4 b2 t H n ∧ t 1 = .own b1 0 ∧ H b1 = some (.cells (c77 a0) 77) ∧ b1 < n ∧ b1 ≠ b2) (by simp [q]) fun t H n q => ?_
  obtain ⟨n0, hn0⟩ : ∃ m, m = n := ⟨n, rfl⟩
  have ln0 : n0 ≤ n := Nat.le_of_eq hn0
  refine Stk.rgD [.rd [], .rd [b1], .rd [], .rd [b1], .rd [], .rd [], .rd [b1], .rd [], .rd [], .rd [b1], .rd [], .rd [], .mem [b2] n0] none (by kernel_rfl) (drawOk2_ren [b1, b2] (by simp [q]) n0 [.rd [], .rd [0], .rd [], .rd [0], .rd [], .rd [], .rd [0], .rd [], .rd [], .rd [0], .rd [], .rd [], .mem [1] 0] rfl (by rfl)) rfl (by simp [below, hn0, q, hn0]) rfl ?_
  obtain ⟨x3, hx3, h⟩ := bnd h
  apply eY 4; simp [q, ld_77_2_9, ld_77_3_75]
  refine cx (ok_atu_AParam F _ _ 75 [] [] (by simp [ln0, freeL, free]) (fun y0 r h => ok_ast_ownParam F y0 r h) _ hx3) rfl rfl (by simp [q, ld_77_2_9, ld_77_3_75]) rfl rfl (by simp [q, ld_77_2_9, ld_77_3_75]) (.cons (.free (freeL_encs fr81 _)) (.cons (.fn .nil (.nil)) (.nil))) (freeL_encs fr81 _) ?_
  rintro _ rfl
  obtain ⟨x4, hx4, h⟩ := bnd h
  apply eY 2; simp [q, ld_77_2_9, ld_77_3_75, ld_77_4_26]
  refine cx (ok_ast_ownType F _ _ hx4) rfl rfl (by simp [q, ld_77_2_9, ld_77_3_75, ld_77_4_26]) rfl rfl (by simp [q, ld_77_2_9, ld_77_3_75, ld_77_4_26]) (.cons (.free (fr26 _)) (.nil)) (fr26 _) ?_
  rintro _ rfl
  obtain ⟨x5, hx5, h⟩ := bnd h
  apply eY 2; simp [q, ld_77_2_9, ld_77_3_75, ld_77_4_26, ld_77_7_33]
  refine cx (ok_ast_bareExpr F _ _ hx5) rfl rfl (by simp [q, ld_77_2_9, ld_77_3_75, ld_77_4_26, ld_77_7_33]) rfl rfl (by simp [q, ld_77_2_9, ld_77_3_75, ld_77_4_26, ld_77_7_33]) (.cons (.free (fr33 _)) (.nil)) (fr33 _) ?_
  rintro _ rfl
  refine gn (fun t H n => Q2_4 b2 t H n ∧ t 4 = .sc (.string a0.Name) ∧ t 7 = .ssl (encs c81 x3) x3.length false ∧ t 10 = .agg (c26 x4) ∧ t 13 = .agg (c33 x5) ∧ n0 ≤ n) (by simp [q, ld_77_2_9, ld_77_3_75, ld_77_4_26, ld_77_7_33, ln0]) fun t H n q => ?_
  refine Stk.ovD rfl (by simp [q]) rfl (vop_build T.t77 rfl rfl (cs := c77 (AFun.mk (APos.mk 0 0) ⟨#[]⟩ [] (AType.mk 0 ⟨#[]⟩ []) (AExpr.mk 0 (APos.mk 0 0) 0 [] ⟨#[]⟩ [] []))) (cs' := c77 (AFun.mk (APos.mk 0 0) a0.Name x3 x4 x5)) rfl (.cons q.2.1 rfl rfl rfl rfl (rfl) (by rw [len77]; decide) (st_77_2_9 _ _) (.cons q.2.2.1 rfl rfl rfl rfl (rfl) (by rw [len77]; decide) (st_77_3_75 _ _) (.cons q.2.2.2.1 rfl rfl rfl rfl (len26 _) (by rw [len77]; decide) (st_77_4_26 _ _) (.cons q.2.2.2.2.1 rfl rfl rfl rfl (len33 _) (by rw [len77]; decide) (st_77_7_33 _ _) (.nil)))))) (by simp [q]) rfl (fun t' ht' => ?_)
  refine gn (fun t H n => Q2_4 b2 t H n ∧ t 14 = .agg (c77 (AFun.mk (APos.mk 0 0) a0.Name x3 x4 x5)) ∧ n0 ≤ n) (by simp [ht', q]) fun t H n q => ?_
  refine Stk.omD (S := [b2]) (b := n0) rfl (fun j hj hm => upd_ne _ _ (by simpa using hm)) rfl (mop_store (z := 15) rfl q.1.1 q.1.2.1 q.2.1 (len77 _) (by rw [len77]; decide) (ok77 _) (st_77_0_77 _ _)) (by simp [q]) rfl (fun t' ht' => ?_)
  refine gn (fun t H n => t 2 = .own b2 0 ∧ H b2 = some (.cells (c77 (AFun.mk (APos.mk 0 0) a0.Name x3 x4 x5)) 77) ∧ b2 < n ∧ n0 ≤ n) ⟨by simp [ht', q], upd_same _ _ _, q.1.2.2, q.2.2⟩ fun t H n q => ?_
  apply eY 2; simp [q]
  obtain rfl := sj h
  exact (hF hr (by simp [q, ld_77_0_77]) (fr77 _)).1
@[simp] abbrev Q2_5 (a0 : (List AHand)) (caps1 : List AV) (first1 : List AV) (g1 : FuncId) (t : Nat → AV) : Prop := t 1 = .fn (.func g1) first1 caps1 ∧ t 8 = .ssl (encs c83 a0) a0.length false ∧ t 9 = .sc (.int .i64 (a0.length : Int))
theorem ok_atu_AHand (F : Nat) (a0 : (List AHand)) (φ1 : AHand → Option AHand) (g1 : FuncId) (first1 caps1 : List AV) (fr1 : freeL first1 = true ∧ freeL caps1 = true) (hφ1 : ∀ y0 r, φ1 y0 = some r → RunF Tryz.prog T.T g1 (first1 ++ [.agg (c83 y0)] ++ caps1) (.agg (c83 r))) (r : (List AHand)) (h : atu_AHand F a0 φ1 = some r) : RunF Tryz.prog T.T 76 [.ssl (encs c83 a0) a0.length false, .fn (.func g1) first1 caps1] (.ssl (encs c83 r) r.length false) := by
  rw [atu_AHand] at h
  refine RunF.z Tryz.func76 rfl rfl rfl rfl rfl (fun C hr => ?_)
  refine gn (fun t H n => t 0 = .ssl (encs c83 a0) a0.length false ∧ t 1 = .fn (.func g1) first1 caps1) ⟨by simp, by simp⟩ fun t H n q => ?_
  apply eY 6; simp [q]
  refine gn (fun t H n => t 0 = .ssl (encs c83 a0) a0.length false ∧ t 1 = .fn (.func g1) first1 caps1) (by simp [q]) fun t H n q => ?_
  refine Stk.run 1 (fun t H n => t 0 = .ssl (encs c83 a0) a0.length false ∧ t 1 = .fn (.func g1) first1 caps1 ∧ t 5 = .sc (.slice none 0 0)) (fun J hJ => ?_) ?_
  · simp [q]
    exact hJ _ _ _ ⟨by simp [q], by simp [q], by simp [q]⟩
  clear q
  rintro t H n q
  obtain ⟨o1, ho1⟩ : ∃ o : Option Nat, o = none := ⟨none, rfl⟩
  obtain ⟨co1, hco1⟩ : ∃ c : Option Nat, c = none := ⟨none, rfl⟩
  obtain ⟨f0, f1, f5⟩ := q
  replace f5 : t 5 = slc o1 ([] : List AHand).length co1 := by rw [ho1]; exact f5
  have b_o1 : OwnC H 83 16 c83 o1 co1 ([] : List AHand) := by rw [ho1]; exact rfl
  have l_o1 : ∀ i, o1 = some i → i < n := by rw [ho1]; intro i e; cases e
  apply eY 9; simp [f0, f1, f5, b_o1]
  refine gn (fun t H n => Q2_5 a0 caps1 first1 g1 t ∧ t 5 = slc o1 ([] : List AHand).length co1 ∧ t 10 = .sc (.int .i64 0) ∧ OwnC H 83 16 c83 o1 co1 ([] : List AHand) ∧ (∀ i, o1 = some i → i < n)) (by and_intros <;> first | assumption | simp [f0, f1, f5, b_o1]) fun t H n q => ?_
  refine Stk.lo (fun μ t H n => ∃ o2 : Option Nat, ∃ co2 : Option Nat, ∃ v3 : List AHand, ∃ v4 : Int, atu_AHand_L0 F a0 φ1 μ v3 v4 = some r ∧ t 1 = .fn (.func g1) first1 caps1 ∧ t 5 = slc o2 v3.length co2 ∧ t 8 = .ssl (encs c83 a0) a0.length false ∧ t 9 = .sc (.int .i64 (a0.length : Int)) ∧ t 10 = .sc (.int .i64 v4) ∧ OwnC H 83 16 c83 o2 co2 v3 ∧ (∀ i, o2 = some i → i < n)) F ⟨o1, co1, ([] : List AHand), 0, h, q.1.1, q.2.1, q.1.2.1, q.1.2.2, q.2.2.1, q.2.2.2.1, q.2.2.2.2⟩ ?_
  clear q h
  rintro J1 hJ1 μ t H n ⟨o2, co2, v3, v4, h, q⟩
  cases μ with
  | zero => exact absurd h (by simp [atu_AHand_L0])
  | succ μ =>
  rw [atu_AHand_L0] at h
  apply eY 5; simp [q]
  refine cd (decide (v4 < (a0.length : Int))) (by simp [q]) (fun hb8 => ?_) (fun hb8 => ?_)
  ·have h := cT hb8 h
   obtain ⟨x9, hx9, h⟩ := bnd h
   obtain ⟨i0x9, i1x9, i2x9, _⟩ := idx_ok hx9
   have ex9_0_83 : partOf T.T 83 (encs c83 a0) (v4.toNat * 16) = some (.agg (c83 x9)) := (part_elem0 (e := c83) (z := 16) (ty := 83) T.t83 (by decide) (by decide) hx9 0 (by decide)).trans (ld_83_0_83 _)
   apply eY 7; simp [q, i0x9, i1x9, pd83, ex9_0_83]
   refine Stk.oz T.t83 (cs := c83 (AHand.mk (APos.mk 0 0) ⟨#[]⟩ (AParam.mk ⟨#[]⟩ (AType.mk 0 ⟨#[]⟩ [])) 0 (AExpr.mk 0 (APos.mk 0 0) 0 [] ⟨#[]⟩ [] []))) (by rfl) rfl (by simp [q, i0x9, i1x9, pd83, ex9_0_83]) rfl (fun t' ht' => ?_)
   refine gn (fun t H n => ∃ b10, Q2_5 a0 caps1 first1 g1 t ∧ t 5 = slc o2 v3.length co2 ∧ t 7 = .own b10 0 ∧ t 10 = .sc (.int .i64 v4) ∧ t 13 = .agg (c83 x9) ∧ H b10 = some (.cells (c83 (AHand.mk (APos.mk 0 0) ⟨#[]⟩ (AParam.mk ⟨#[]⟩ (AType.mk 0 ⟨#[]⟩ [])) 0 (AExpr.mk 0 (APos.mk 0 0) 0 [] ⟨#[]⟩ [] []))) 83) ∧ b10 < n ∧ OwnC H 83 16 c83 o2 co2 v3 ∧ (∀ i, o2 = some i → i < n) ∧ (∀ i, o2 = some i → i ≠ b10)) ⟨n, j5 (by simp [ht', q, i0x9, i1x9, pd83, ex9_0_83]) ⟨upd_same _ _ _, Nat.lt_succ_self _, q.2.2.2.2.2.1.mono (fun i hi => upd_ne _ _ (Nat.ne_of_lt (q.2.2.2.2.2.2 i hi))), fun i hi => Nat.lt_succ_of_lt (q.2.2.2.2.2.2 i hi), fun i hi => Nat.ne_of_lt (q.2.2.2.2.2.2 i hi)⟩⟩ fun t H n ⟨b10, ⟨f1, f8, f9⟩, f5, f7, f10, f13, b_b10, l_b10, b_o2, l_o2, d_b10_o2⟩ => ?_
   refine Stk.om (mop_store (z := 16) rfl f7 b_b10 f13 (len83 _) (by rw [len83]; decide) (ok83 _) (st_83_0_83 _ _)) (by simp [f1, f5, f7, f8, f9, f10, f13]) rfl (fun t' ht' => ?_)
   refine gn (fun t H n => Q2_5 a0 caps1 first1 g1 t ∧ t 5 = slc o2 v3.length co2 ∧ t 7 = .own b10 0 ∧ t 10 = .sc (.int .i64 v4) ∧ H b10 = some (.cells (c83 x9) 83) ∧ b10 < n ∧ OwnC H 83 16 c83 o2 co2 v3 ∧ (∀ i, o2 = some i → i < n) ∧ (∀ i, o2 = some i → i ≠ b10)) (j4 (by simp [ht', f1, f8, f9, f5, f7, f10]) ⟨upd_same _ _ _, l_b10, b_o2.mono (fun i hi => upd_ne _ _ (d_b10_o2 i hi)), l_o2, d_b10_o2⟩) fun t H n q => ?_
   obtain ⟨x11, hx11, h⟩ := bnd h
   apply eY 5; simp [q, ld_83_0_83]
   refine Stk.cv (g := g1) (first := first1) (caps := caps1) (args := first1 ++ [.agg (c83 x9)] ++ caps1) (args' := first1 ++ [.agg (c83 x9)] ++ caps1) (v := .agg (c83 x11)) [] (hφ1 _ _ hx11) (by simp [q, ld_83_0_83]) rfl (by simp [q, ld_83_0_83]) (by simp [q, ld_83_0_83]) (viewL_mid (x := [.agg (c83 x9)]) (y := [.agg (c83 x9)]) fr1.1 fr1.2 (.cons (.free (fr83 _)) (.nil))) (.inl ⟨rfl, fr83 _⟩) ?_
   rintro _ rfl
   refine gn (fun t H n => Q2_5 a0 caps1 first1 g1 t ∧ t 10 = .sc (.int .i64 v4) ∧ t 14 = slc o2 v3.length co2 ∧ t 17 = .agg (c83 x11) ∧ OwnC H 83 16 c83 o2 co2 v3 ∧ (∀ i, o2 = some i → i < n)) (by have ⟨⟨_, _, _⟩, _, _, _, _, _, _, _, _⟩ := q; and_intros <;> first | assumption | simp [q, ld_83_0_83]) fun t H n q => ?_
   refine Stk.om (mop_buildN (c := c83) (z := 16) T.t34 rfl T.t83 rfl (by decide) rfl (by decide) [x11] rfl (.cons q.2.2.2.1 rfl rfl rfl (len83 _) (by simp [length_encs]) (splice_next (c := c83) [] _ x11 rfl (by simp)) (.nil))) (by simp [q]) rfl (fun t' ht' => ?_)
   refine gn (fun t H n => ∃ b12, Q2_5 a0 caps1 first1 g1 t ∧ t 10 = .sc (.int .i64 v4) ∧ t 14 = slc o2 v3.length co2 ∧ t 18 = .osl b12 0 ([x11] : List AHand).length (some ([x11] : List AHand).length) ∧ H b12 = some (.cells (encs c83 ([x11] : List AHand)) 83) ∧ b12 < n ∧ OwnC H 83 16 c83 o2 co2 v3 ∧ (∀ i, o2 = some i → i < n) ∧ (∀ i, o2 = some i → i ≠ b12)) ⟨n, j4 (by simp [ht', q]) ⟨upd_same _ _ _, Nat.lt_succ_self _, q.2.2.2.2.1.mono (fun i hi => upd_ne _ _ (Nat.ne_of_lt (q.2.2.2.2.2 i hi))), fun i hi => Nat.lt_succ_of_lt (q.2.2.2.2.2 i hi), fun i hi => Nat.ne_of_lt (q.2.2.2.2.2 i hi)⟩⟩ fun t H n ⟨b12, ⟨f1, f8, f9⟩, f10, f14, f18, b_b12, l_b12, b_o2, l_o2, d_b12_o2⟩ => ?_
   obtain ⟨x13, hx13, h⟩ := bnd h
   obtain ⟨r1x13, r2x13, r3x13⟩ := appM_ok hx13
   obtain ⟨o14, co14, H9, n9, e9, w9, le9, fr9, kp9⟩ := append_ownC (e := c83) (z := 16) (st := 34) T.t34 rfl T.t83 rfl (by decide) rfl (by decide) b_o2 l_o2 (y := .osl b12 0 ([x11] : List AHand).length (some ([x11] : List AHand).length)) ([x11] : List AHand) (elems_row b_b12 _) (all_encs ok83 _) r1x13 r2x13
   rw [r3x13] at e9 w9
   refine Stk.om ((mop_append T.t34 rfl).trans (by rw [show ev t (.tmp 14) = t 14 from rfl, f14]; rw [show ev t (.tmp 18) = t 18 from rfl, f18];  exact e9)) (by simp [f1, f8, f9, f10, f14, f18]) rfl (fun t' ht' => ?_)
   refine gn (fun t H n => Q2_5 a0 caps1 first1 g1 t ∧ t 10 = .sc (.int .i64 v4) ∧ t 19 = slc o14 x13.length co14 ∧ OwnC H 83 16 c83 o14 co14 x13 ∧ (∀ i, o14 = some i → i < n)) (j3 (by simp [ht', f1, f8, f9, f10]) ⟨w9, fun i hi => (fr9 i hi).2⟩) fun t H n q => ?_
   apply eY 7; simp [q]
   exact lm (hJ1 _ _ _ _ ⟨o14, co14, x13, (IntKind.i64.wrap (v4 + 1)), h, by have ⟨⟨_, _, _⟩, _, _, _, _⟩ := q; and_intros <;> first | assumption | simp [q]⟩)
  ·have h := cF hb8 h
   refine Stk.ex rfl ?_
   apply eY 6; simp [q]
   obtain rfl := sj h
   exact (hr _ _ _ (slc o2 v3.length co2) (o2.toList) (by simp [q]) (.inr (.inr (view_ownC fr83 q.2.2.2.2.2.1 (fun i hi => by simp [hi]))))).1
@[simp] abbrev Q2_6 (b2 : Nat) (t : Nat → AV) (H : Mem) (n : Nat) : Prop := t 2 = .own b2 0 ∧ H b2 = some (.cells (c83 (AHand.mk (APos.mk 0 0) ⟨#[]⟩ (AParam.mk ⟨#[]⟩ (AType.mk 0 ⟨#[]⟩ [])) 0 (AExpr.mk 0 (APos.mk 0 0) 0 [] ⟨#[]⟩ [] []))) 83) ∧ b2 < n
theorem ok_ast_Bare_3 (F : Nat) (a0 : AHand) (r : AHand) (h : ast_Bare_3 F a0 = some r) : RunF Tryz.prog T.T 77 [.agg (c83 a0)] (.agg (c83 r)) := by
  rw [ast_Bare_3] at h
  refine RunF.z Tryz.func77 rfl rfl rfl rfl rfl (fun C hr => ?_)
  refine gn (fun t H n => t 0 = .agg (c83 a0)) (by simp) fun t H n q => ?_
  apply eY 2; simp [q]
  refine gn (fun t H n => t 0 = .agg (c83 a0)) (by simp [q]) fun t H n q => ?_
  refine Stk.om (mop_box T.t83 (cs := c83 a0) (by show partOk (t 0) = true; rw [q]; rfl) (by show cellsOf (t 0) = _; rw [q]; rfl)) (by simp [q]) rfl (fun t' ht' => ?_)
  refine gn (fun t H n => ∃ b1, t 1 = .own b1 0 ∧ H b1 = some (.cells (c83 a0) 83) ∧ b1 < n) ⟨n, by simp [ht'], upd_same _ _ _, Nat.lt_succ_self _⟩ fun t H n ⟨b1, q⟩ => ?_
  refine Stk.oz T.t83 (cs := c83 (AHand.mk (APos.mk 0 0) ⟨#[]⟩ (AParam.mk ⟨#[]⟩ (AType.mk 0 ⟨#[]⟩ [])) 0 (AExpr.mk 0 (APos.mk 0 0) 0 [] ⟨#[]⟩ [] []))) (by rfl) rfl (by simp [q]) rfl (fun t' ht' => ?_)
  refine gn (fun t H n => ∃ b2, t 1 = .own b1 0 ∧ t 2 = .own b2 0 ∧ H b1 = some (.cells (c83 a0) 83) ∧ b1 < n ∧ H b2 = some (.cells (c83 (AHand.mk (APos.mk 0 0) ⟨#[]⟩ (AParam.mk ⟨#[]⟩ (AType.mk 0 ⟨#[]⟩ [])) 0 (AExpr.mk 0 (APos.mk 0 0) 0 [] ⟨#[]⟩ [] []))) 83) ∧ b2 < n ∧ b1 ≠ b2) ⟨n, j2 (by simp [ht', q]) ⟨(upd_ne _ _ (Nat.ne_of_lt q.2.2)).trans q.2.1, Nat.lt_succ_of_lt q.2.2, upd_same _ _ _, Nat.lt_succ_self _, Nat.ne_of_lt q.2.2⟩⟩ fun t H n ⟨b2, q⟩ => ?_
  apply eY 2; simp [q]
  refine gn (fun t H n => Q2_6 b2 t H n ∧ t 1 = .own b1 0 ∧ H b1 = some (.cells (c83 a0) 83) ∧ b1 < n ∧ b1 ≠ b2) (by simp [q]) fun t H n q => ?_
  obtain ⟨n0, hn0⟩ : ∃ m, m = n := ⟨n, rfl⟩
  have ln0 : n0 ≤ n := Nat.le_of_eq hn0
  refine Stk.rgD [.rd [], .rd [b1], .rd [], .rd [b1], .rd [], .rd [], .rd [b1], .rd [], .rd [b1], .rd [], .rd [], .mem [b2] n0] none (by kernel_rfl) (drawOk2_ren [b1, b2] (by simp [q]) n0 [.rd [], .rd [0], .rd [], .rd [0], .rd [], .rd [], .rd [0], .rd [], .rd [0], .rd [], .rd [], .mem [1] 0] rfl (by rfl)) rfl (by simp [below, hn0, q, hn0]) rfl ?_
  obtain ⟨x3, hx3, h⟩ := bnd h
  apply eY 4; simp [q, ld_83_2_9, ld_83_3_81]
  refine cx (ok_ast_ownParam F _ _ hx3) rfl rfl (by simp [q, ld_83_2_9, ld_83_3_81]) rfl rfl (by simp [q, ld_83_2_9, ld_83_3_81]) (.cons (.free (fr81 _)) (.nil)) (fr81 _) ?_
  rintro _ rfl
  obtain ⟨x4, hx4, h⟩ := bnd h
  apply eY 4; simp [q, ld_83_2_9, ld_83_3_81, ld_83_7_3, ld_83_8_33]
  refine cx (ok_ast_bareExpr F _ _ hx4) rfl rfl (by simp [q, ld_83_2_9, ld_83_3_81, ld_83_7_3, ld_83_8_33]) rfl rfl (by simp [q, ld_83_2_9, ld_83_3_81, ld_83_7_3, ld_83_8_33]) (.cons (.free (fr33 _)) (.nil)) (fr33 _) ?_
  rintro _ rfl
  refine gn (fun t H n => Q2_6 b2 t H n ∧ t 4 = .sc (.string a0.Name) ∧ t 7 = .agg (c81 x3) ∧ t 9 = .sc (.int .i64 a0.Cap) ∧ t 12 = .agg (c33 x4) ∧ n0 ≤ n) (by simp [q, ld_83_2_9, ld_83_3_81, ld_83_7_3, ld_83_8_33, ln0]) fun t H n q => ?_
  refine Stk.ovD rfl (by simp [q]) rfl (vop_build T.t83 rfl rfl (cs := c83 (AHand.mk (APos.mk 0 0) ⟨#[]⟩ (AParam.mk ⟨#[]⟩ (AType.mk 0 ⟨#[]⟩ [])) 0 (AExpr.mk 0 (APos.mk 0 0) 0 [] ⟨#[]⟩ [] []))) (cs' := c83 (AHand.mk (APos.mk 0 0) a0.Name x3 a0.Cap x4)) rfl (.cons q.2.1 rfl rfl rfl rfl (rfl) (by rw [len83]; decide) (st_83_2_9 _ _) (.cons q.2.2.1 rfl rfl rfl rfl (len81 _) (by rw [len83]; decide) (st_83_3_81 _ _) (.cons q.2.2.2.1 rfl rfl rfl rfl (rfl) (by rw [len83]; decide) (st_83_7_3 _ _) (.cons q.2.2.2.2.1 rfl rfl rfl rfl (len33 _) (by rw [len83]; decide) (st_83_8_33 _ _) (.nil)))))) (by simp [q]) rfl (fun t' ht' => ?_)
  refine gn (fun t H n => Q2_6 b2 t H n ∧ t 13 = .agg (c83 (AHand.mk (APos.mk 0 0) a0.Name x3 a0.Cap x4)) ∧ n0 ≤ n) (by simp [ht', q]) fun t H n q => ?_
  refine Stk.omD (S := [b2]) (b := n0) rfl (fun j hj hm => upd_ne _ _ (by simpa using hm)) rfl (mop_store (z := 16) rfl q.1.1 q.1.2.1 q.2.1 (len83 _) (by rw [len83]; decide) (ok83 _) (st_83_0_83 _ _)) (by simp [q]) rfl (fun t' ht' => ?_)
  refine gn (fun t H n => t 2 = .own b2 0 ∧ H b2 = some (.cells (c83 (AHand.mk (APos.mk 0 0) a0.Name x3 a0.Cap x4)) 83) ∧ b2 < n ∧ n0 ≤ n) ⟨by simp [ht', q], upd_same _ _ _, q.1.2.2, q.2.2⟩ fun t H n q => ?_
  apply eY 2; simp [q]
  obtain rfl := sj h
  exact (hF hr (by simp [q, ld_83_0_83]) (fr83 _)).1
@[simp] abbrev Q2_7 (b1 : Nat) (b2 : Nat) (t : Nat → AV) (H : Mem) (n : Nat) : Prop := t 1 = .own b1 0 ∧ t 2 = .own b2 0 ∧ b1 < n ∧ H b2 = some (.cells (c36 (AProg.mk [] [] 0 0 (AType.mk 0 ⟨#[]⟩ []) 0 (AExpr.mk 0 (APos.mk 0 0) 0 [] ⟨#[]⟩ [] []) [])) 36) ∧ b2 < n ∧ b1 ≠ b2
theorem ok_ast_Bare (F : Nat) (a0 : AProg) (r : AProg) (h : ast_Bare F a0 = some r) : RunF Tryz.prog T.T 27 [.agg (c36 a0)] (.agg (c36 r)) := by
  rw [ast_Bare] at h
  refine RunF.z Tryz.func27 rfl rfl rfl rfl rfl (fun C hr => ?_)
  refine gn (fun t H n => t 0 = .agg (c36 a0)) (by simp) fun t H n q => ?_
  apply eY 2; simp [q]
  refine gn (fun t H n => t 0 = .agg (c36 a0)) (by simp [q]) fun t H n q => ?_
  refine Stk.om (mop_box T.t36 (cs := c36 a0) (by show partOk (t 0) = true; rw [q]; rfl) (by show cellsOf (t 0) = _; rw [q]; rfl)) (by simp [q]) rfl (fun t' ht' => ?_)
  refine gn (fun t H n => ∃ b1, t 1 = .own b1 0 ∧ H b1 = some (.cells (c36 a0) 36) ∧ b1 < n) ⟨n, by simp [ht'], upd_same _ _ _, Nat.lt_succ_self _⟩ fun t H n ⟨b1, q⟩ => ?_
  refine Stk.oz T.t36 (cs := c36 (AProg.mk [] [] 0 0 (AType.mk 0 ⟨#[]⟩ []) 0 (AExpr.mk 0 (APos.mk 0 0) 0 [] ⟨#[]⟩ [] []) [])) (by rfl) rfl (by simp [q]) rfl (fun t' ht' => ?_)
  refine gn (fun t H n => ∃ b2, t 1 = .own b1 0 ∧ t 2 = .own b2 0 ∧ H b1 = some (.cells (c36 a0) 36) ∧ b1 < n ∧ H b2 = some (.cells (c36 (AProg.mk [] [] 0 0 (AType.mk 0 ⟨#[]⟩ []) 0 (AExpr.mk 0 (APos.mk 0 0) 0 [] ⟨#[]⟩ [] []) [])) 36) ∧ b2 < n ∧ b1 ≠ b2) ⟨n, j2 (by simp [ht', q]) ⟨(upd_ne _ _ (Nat.ne_of_lt q.2.2)).trans q.2.1, Nat.lt_succ_of_lt q.2.2, upd_same _ _ _, Nat.lt_succ_self _, Nat.ne_of_lt q.2.2⟩⟩ fun t H n ⟨b2, q⟩ => ?_
  apply eY 2; simp [q]
  refine gn (fun t H n => Q2_7 b1 b2 t H n ∧ H b1 = some (.cells (c36 a0) 36)) (by simp [q]) fun t H n q => ?_
  obtain ⟨n0, hn0⟩ : ∃ m, m = n := ⟨n, rfl⟩
  have ln0 : n0 ≤ n := Nat.le_of_eq hn0
  refine Stk.rgD [.rd [], .rd [b1], .rd [], .rd [], .rd [b1], .rd [], .rd [], .mem [b1] n0, .rd [], .mem [b1] n0] none (by kernel_rfl) (by rfl) rfl (by simp [below, hn0, q, hn0]) rfl ?_
  obtain ⟨x3, hx3, h⟩ := bnd h
  apply eY 2; simp [q, ld_36_4_26]
  refine cx (ok_ast_ownType F _ _ hx3) rfl rfl (by simp [q, ld_36_4_26]) rfl rfl (by simp [q, ld_36_4_26]) (.cons (.free (fr26 _)) (.nil)) (fr26 _) ?_
  rintro _ rfl
  obtain ⟨x4, hx4, h⟩ := bnd h
  apply eY 2; simp [q, ld_36_4_26, ld_36_8_33]
  refine cx (ok_ast_bareExpr F _ _ hx4) rfl rfl (by simp [q, ld_36_4_26, ld_36_8_33]) rfl rfl (by simp [q, ld_36_4_26, ld_36_8_33]) (.cons (.free (fr33 _)) (.nil)) (fr33 _) ?_
  rintro _ rfl
  apply eY 1; simp [q, ld_36_4_26, ld_36_8_33]
  refine gn (fun t H n => Q2_7 b1 b2 t H n ∧ t 5 = .agg (c26 x3) ∧ t 8 = .agg (c33 x4) ∧ t 9 = .own b1 4 ∧ H b1 = some (.cells (c36 a0) 36) ∧ n0 ≤ n) (by simp [q, ld_36_4_26, ld_36_8_33, ln0]) fun t H n q => ?_
  refine Stk.omD (S := [b1]) (b := n0) rfl (fun j hj hm => upd_ne _ _ (by simpa using hm)) rfl (mop_store (z := 3) rfl q.2.2.2.1 q.2.2.2.2.1 q.2.1 (len26 _) (by rw [len36]; decide) (ok26 _) (st_36_4_26 _ _)) (by simp [q]) rfl (fun t' ht' => ?_)
  refine gn (fun t H n => Q2_7 b1 b2 t H n ∧ t 8 = .agg (c33 x4) ∧ H b1 = some (.cells (c36 ({ a0 with State := x3 })) 36) ∧ n0 ≤ n) ⟨⟨by simp [ht', q], by simp [ht', q], q.1.2.2.1, (upd_ne _ _ (Ne.symm q.1.2.2.2.2.2)).trans q.1.2.2.2.1, q.1.2.2.2.2.1, q.1.2.2.2.2.2⟩, by simp [ht', q], upd_same _ _ _, q.2.2.2.2.2⟩ fun t H n q => ?_
  apply eY 1; simp [q]
  refine gn (fun t H n => Q2_7 b1 b2 t H n ∧ t 8 = .agg (c33 x4) ∧ t 10 = .own b1 8 ∧ H b1 = some (.cells (c36 ({ a0 with State := x3 })) 36) ∧ n0 ≤ n) (by simp [q]) fun t H n q => ?_
  refine Stk.omD (S := [b1]) (b := n0) rfl (fun j hj hm => upd_ne _ _ (by simpa using hm)) rfl (mop_store (z := 8) rfl q.2.2.1 q.2.2.2.1 q.2.1 (len33 _) (by rw [len36]; decide) (ok33 _) (st_36_8_33 _ _)) (by simp [q]) rfl (fun t' ht' => ?_)
  refine gn (fun t H n => Q2_7 b1 b2 t H n ∧ H b1 = some (.cells (c36 ({ { a0 with State := x3 } with Init := x4 })) 36) ∧ n0 ≤ n) ⟨⟨by simp [ht', q], by simp [ht', q], q.1.2.2.1, (upd_ne _ _ (Ne.symm q.1.2.2.2.2.2)).trans q.1.2.2.2.1, q.1.2.2.2.2.1, q.1.2.2.2.2.2⟩, upd_same _ _ _, q.2.2.2.2⟩ fun t H n q => ?_
  obtain ⟨x5, hx5, h⟩ := bnd h
  apply eY 5; simp [q, ld_36_0_22]
  refine cw (ok_atu_AData F _ _ 69 [] [] (by simp [freeL, free]) (fun y0 r h => ok_ast_Bare_1 F y0 r h) _ hx5) (by simp [q, ld_36_0_22]) rfl rfl (by simp [q, ld_36_0_22]) (.cons (.free (by exact freeL_encs fr72 _)) (.cons (.fn .nil (.nil)) (.nil))) (freeL_encs fr72 _) ?_
  rintro _ rfl
  apply eY 1; simp [q, ld_36_0_22]
  refine Stk.om (mop_store (z := 1) (o := 0) (v := .ssl (encs c72 x5) x5.length false) rfl (by simp [q, ld_36_0_22]) q.2.1 (by simp [q, ld_36_0_22]) rfl (by rw [len36]; decide) rfl (st_36_0_22 _ _)) (by simp [q, ld_36_0_22]) rfl (fun t' ht' => ?_)
  refine gn (fun t H n => Q2_7 b1 b2 t H n ∧ H b1 = some (.cells (c36 ({ { { a0 with State := x3 } with Init := x4 } with Datas := x5 })) 36)) ⟨⟨by simp [ht', q, ld_36_0_22], by simp [ht', q, ld_36_0_22], q.1.2.2.1, (upd_ne _ _ (Ne.symm q.1.2.2.2.2.2)).trans q.1.2.2.2.1, q.1.2.2.2.2.1, q.1.2.2.2.2.2⟩, upd_same _ _ _⟩ fun t H n q => ?_
  obtain ⟨x6, hx6, h⟩ := bnd h
  apply eY 5; simp [q, ld_36_1_23]
  refine cw (ok_atu_AFun F _ _ 73 [] [] (by simp [freeL, free]) (fun y0 r h => ok_ast_Bare_2 F y0 r h) _ hx6) (by simp [q, ld_36_1_23]) rfl rfl (by simp [q, ld_36_1_23]) (.cons (.free (by exact freeL_encs fr77 _)) (.cons (.fn .nil (.nil)) (.nil))) (freeL_encs fr77 _) ?_
  rintro _ rfl
  apply eY 1; simp [q, ld_36_1_23]
  refine Stk.om (mop_store (z := 1) (o := 1) (v := .ssl (encs c77 x6) x6.length false) rfl (by simp [q, ld_36_1_23]) q.2 (by simp [q, ld_36_1_23]) rfl (by rw [len36]; decide) rfl (st_36_1_23 _ _)) (by simp [q, ld_36_1_23]) rfl (fun t' ht' => ?_)
  refine gn (fun t H n => Q2_7 b1 b2 t H n ∧ H b1 = some (.cells (c36 ({ { { { a0 with State := x3 } with Init := x4 } with Datas := x5 } with Funs := x6 })) 36)) ⟨⟨by simp [ht', q, ld_36_1_23], by simp [ht', q, ld_36_1_23], q.1.2.2.1, (upd_ne _ _ (Ne.symm q.1.2.2.2.2.2)).trans q.1.2.2.2.1, q.1.2.2.2.2.1, q.1.2.2.2.2.2⟩, upd_same _ _ _⟩ fun t H n q => ?_
  obtain ⟨x7, hx7, h⟩ := bnd h
  apply eY 5; simp [q, ld_36_16_34]
  refine cw (ok_atu_AHand F _ _ 77 [] [] (by simp [freeL, free]) (fun y0 r h => ok_ast_Bare_3 F y0 r h) _ hx7) (by simp [q, ld_36_16_34]) rfl rfl (by simp [q, ld_36_16_34]) (.cons (.free (by exact freeL_encs fr83 _)) (.cons (.fn .nil (.nil)) (.nil))) (freeL_encs fr83 _) ?_
  rintro _ rfl
  apply eY 1; simp [q, ld_36_16_34]
  refine Stk.om (mop_store (z := 1) (o := 16) (v := .ssl (encs c83 x7) x7.length false) rfl (by simp [q, ld_36_16_34]) q.2 (by simp [q, ld_36_16_34]) rfl (by rw [len36]; decide) rfl (st_36_16_34 _ _)) (by simp [q, ld_36_16_34]) rfl (fun t' ht' => ?_)
  refine gn (fun t H n => Q2_7 b1 b2 t H n ∧ H b1 = some (.cells (c36 ({ { { { { a0 with State := x3 } with Init := x4 } with Datas := x5 } with Funs := x6 } with Hands := x7 })) 36)) ⟨⟨by simp [ht', q, ld_36_16_34], by simp [ht', q, ld_36_16_34], q.1.2.2.1, (upd_ne _ _ (Ne.symm q.1.2.2.2.2.2)).trans q.1.2.2.2.1, q.1.2.2.2.2.1, q.1.2.2.2.2.2⟩, upd_same _ _ _⟩ fun t H n q => ?_
  apply eY 4; simp [q, ld_36_0_36]
  refine Stk.om (mop_store (z := 17) (o := 0) (v := .agg (c36 ({ { { { { a0 with State := x3 } with Init := x4 } with Datas := x5 } with Funs := x6 } with Hands := x7 }))) rfl (by simp [q, ld_36_0_36]) q.1.2.2.2.1 (by simp [q, ld_36_0_36]) (len36 _) (by rw [len36]; decide) (ok36 _) (st_36_0_36 _ _)) (by simp [q, ld_36_0_36]) rfl (fun t' ht' => ?_)
  refine gn (fun t H n => t 2 = .own b2 0 ∧ H b2 = some (.cells (c36 ({ { { { { a0 with State := x3 } with Init := x4 } with Datas := x5 } with Funs := x6 } with Hands := x7 })) 36) ∧ b2 < n) ⟨by simp [ht', q, ld_36_0_36], upd_same _ _ _, q.1.2.2.2.2.1⟩ fun t H n q => ?_
  apply eY 2; simp [q]
  obtain rfl := sj h
  exact (hF hr (by simp [q, ld_36_0_36]) (by exact fr36 _)).1
@[simp] abbrev Q2_8 (a0 : (List AType)) (a1 : (List AType)) (caps2 : List AV) (first2 : List AV) (g2 : FuncId) (t : Nat → AV) : Prop := t 1 = .ssl (encs c26 a1) a1.length false ∧ t 2 = .fn (.func g2) first2 caps2 ∧ t 15 = .ssl (encs c26 a0) a0.length false ∧ t 16 = .sc (.int .i64 (a0.length : Int))
theorem ok_sEqType (F : Nat) (a0 : (List AType)) (a1 : (List AType)) (φ2 : AType → AType → Option Bool) (g2 : FuncId) (first2 caps2 : List AV) (fr2 : freeL first2 = true ∧ freeL caps2 = true) (hφ2 : ∀ y0 y1 r, φ2 y0 y1 = some r → RunF Tryz.prog T.T g2 (first2 ++ [.agg (c26 y0), .agg (c26 y1)] ++ caps2) (.sc (.bool r))) (r : Bool) (h : sEqType F a0 a1 φ2 = some r) : RunF Tryz.prog T.T 191 [.ssl (encs c26 a0) a0.length false, .ssl (encs c26 a1) a1.length false, .fn (.func g2) first2 caps2] (.sc (.bool r)) := by
  rw [sEqType] at h
  refine RunF.z Tryz.func191 rfl rfl rfl rfl rfl (fun C hr => ?_)
  refine gn (fun t H n => t 0 = .ssl (encs c26 a0) a0.length false ∧ t 1 = .ssl (encs c26 a1) a1.length false ∧ t 2 = .fn (.func g2) first2 caps2) ⟨by simp, by simp, by simp⟩ fun t H n q => ?_
  apply eY 13; simp [q]
  refine cd ((a0.length : Int) != (a1.length : Int)) (by simp [q]) (fun hb1 => ?_) (fun hb1 => ?_)
  ·have h := cT hb1 h
   apply eY 5; simp [q]
   obtain rfl := sj h
   exact (hF hr (by simp [q]) rfl).1
  ·have h := cF hb1 h
   apply eY 9; simp [q]
   refine gn (fun t H n => Q2_8 a0 a1 caps2 first2 g2 t ∧ t 17 = .sc (.int .i64 0)) (by simp [q]) fun t H n q => ?_
   refine Stk.lo (fun μ t H n => ∃ v2 : Int, sEqType_L0 F a0 a1 φ2 μ v2 = some r ∧ t 1 = .ssl (encs c26 a1) a1.length false ∧ t 2 = .fn (.func g2) first2 caps2 ∧ t 15 = .ssl (encs c26 a0) a0.length false ∧ t 16 = .sc (.int .i64 (a0.length : Int)) ∧ t 17 = .sc (.int .i64 v2)) F ⟨0, h, q.1.1, q.1.2.1, q.1.2.2.1, q.1.2.2.2, q.2⟩ ?_
   clear q h
   rintro J1 hJ1 μ t H n ⟨v2, h, q⟩
   cases μ with
   | zero => exact absurd h (by simp [sEqType_L0])
   | succ μ =>
   rw [sEqType_L0] at h
   apply eY 5; simp [q]
   refine cd (decide (v2 < (a0.length : Int))) (by simp [q]) (fun hb4 => ?_) (fun hb4 => ?_)
   ·have h := cT hb4 h
    obtain ⟨x5, hx5, h⟩ := bnd h
    obtain ⟨i0x5, i1x5, i2x5, _⟩ := idx_ok hx5
    have ex5_0_26 : partOf T.T 26 (encs c26 a0) (v2.toNat * 3) = some (.agg (c26 x5)) := (part_elem0 (e := c26) (z := 3) (ty := 26) T.t26 (by decide) (by decide) hx5 0 (by decide)).trans (ld_26_0_26 _)
    apply eY 8; simp [q, i0x5, i1x5, pd26, ex5_0_26]
    refine Stk.oz T.t26 (cs := c26 (AType.mk 0 ⟨#[]⟩ [])) (by rw [u26]; rfl) rfl (by simp [q, i0x5, i1x5, pd26, ex5_0_26]) rfl (fun t' ht' => ?_)
    refine gn (fun t H n => ∃ b6, Q2_8 a0 a1 caps2 first2 g2 t ∧ t 8 = .own b6 0 ∧ t 17 = .sc (.int .i64 v2) ∧ t 19 = .sc (.int .i64 v2) ∧ t 21 = .agg (c26 x5) ∧ H b6 = some (.cells (c26 (AType.mk 0 ⟨#[]⟩ [])) 26) ∧ b6 < n) ⟨n, j5 (by simp [ht', q, i0x5, i1x5, pd26, ex5_0_26]) ⟨upd_same _ _ _, Nat.lt_succ_self _⟩⟩ fun t H n ⟨b6, ⟨f1, f2, f15, f16⟩, f8, f17, f19, f21, b_b6, l_b6⟩ => ?_
    apply eY 1; simp [f1, f2, f8, f15, f16, f17, f19, f21, b_b6]
    refine Stk.om (mop_store (z := 3) (o := 0) (v := .agg (c26 x5)) rfl (by simp [f1, f2, f8, f15, f16, f17, f19, f21, b_b6]) b_b6 (by simp [f1, f2, f8, f15, f16, f17, f19, f21, b_b6]) (len26 _) (by rw [len26]; decide) (ok26 _) (st_26_0_26 _ _)) (by simp [f1, f2, f8, f15, f16, f17, f19, f21, b_b6]) rfl (fun t' ht' => ?_)
    refine gn (fun t H n => Q2_8 a0 a1 caps2 first2 g2 t ∧ t 7 = .sc (.int .i64 v2) ∧ t 8 = .own b6 0 ∧ t 17 = .sc (.int .i64 v2) ∧ H b6 = some (.cells (c26 x5) 26) ∧ b6 < n) (j4 (by simp [ht', f1, f2, f8, f15, f16, f17, f19, f21, b_b6]) ⟨upd_same _ _ _, l_b6⟩) fun t H n q => ?_
    obtain ⟨x7, hx7, h⟩ := bnd h
    obtain ⟨i0x7, i1x7, i2x7, _⟩ := idx_ok hx7
    have ex7_0_26 : partOf T.T 26 (encs c26 a1) (v2.toNat * 3) = some (.agg (c26 x7)) := (part_elem0 (e := c26) (z := 3) (ty := 26) T.t26 (by decide) (by decide) hx7 0 (by decide)).trans (ld_26_0_26 _)
    apply eY 7; simp [q, i0x7, i1x7, pd26, ex7_0_26]
    refine Stk.oz T.t26 (cs := c26 (AType.mk 0 ⟨#[]⟩ [])) (by rw [u26]; rfl) rfl (by simp [q, i0x7, i1x7, pd26, ex7_0_26]) rfl (fun t' ht' => ?_)
    refine gn (fun t H n => ∃ b8, Q2_8 a0 a1 caps2 first2 g2 t ∧ t 8 = .own b6 0 ∧ t 9 = .own b8 0 ∧ t 17 = .sc (.int .i64 v2) ∧ t 25 = .agg (c26 x7) ∧ H b6 = some (.cells (c26 x5) 26) ∧ b6 < n ∧ H b8 = some (.cells (c26 (AType.mk 0 ⟨#[]⟩ [])) 26) ∧ b8 < n ∧ b6 ≠ b8) ⟨n, j5 (by simp [ht', q, i0x7, i1x7, pd26, ex7_0_26]) ⟨(upd_ne _ _ (Nat.ne_of_lt q.2.2.2.2.2)).trans q.2.2.2.2.1, Nat.lt_succ_of_lt q.2.2.2.2.2, upd_same _ _ _, Nat.lt_succ_self _, Nat.ne_of_lt q.2.2.2.2.2⟩⟩ fun t H n ⟨b8, ⟨f1, f2, f15, f16⟩, f8, f9, f17, f25, b_b6, l_b6, b_b8, l_b8, d_b6_b8⟩ => ?_
    refine Stk.om (mop_store (z := 3) rfl f9 b_b8 f25 (len26 _) (by rw [len26]; decide) (ok26 _) (st_26_0_26 _ _)) (by simp [f1, f2, f8, f9, f15, f16, f17, f25]) rfl (fun t' ht' => ?_)
    refine gn (fun t H n => Q2_8 a0 a1 caps2 first2 g2 t ∧ t 8 = .own b6 0 ∧ t 9 = .own b8 0 ∧ t 17 = .sc (.int .i64 v2) ∧ H b6 = some (.cells (c26 x5) 26) ∧ b6 < n ∧ H b8 = some (.cells (c26 x7) 26) ∧ b8 < n ∧ b6 ≠ b8) (j4 (by simp [ht', f1, f2, f15, f16, f8, f9, f17]) ⟨(upd_ne _ _ d_b6_b8).trans b_b6, l_b6, upd_same _ _ _, l_b8, d_b6_b8⟩) fun t H n q => ?_
    obtain ⟨x9, hx9, h⟩ := bnd h
    apply eY 6; simp [q, ld_26_0_26]
    refine Stk.cv (g := g2) (first := first2) (caps := caps2) (args := first2 ++ [.agg (c26 x5), .agg (c26 x7)] ++ caps2) (args' := first2 ++ [.agg (c26 x5), .agg (c26 x7)] ++ caps2) (v := .sc (.bool x9)) [] (hφ2 _ _ _ hx9) (by simp [q, ld_26_0_26]) rfl (by simp [q, ld_26_0_26]) (by simp [q, ld_26_0_26]) (viewL_mid (x := [.agg (c26 x5), .agg (c26 x7)]) (y := [.agg (c26 x5), .agg (c26 x7)]) fr2.1 fr2.2 (.cons (.free (fr26 _)) (.cons (.free (fr26 _)) (.nil)))) (.inl ⟨rfl, rfl⟩) ?_
    rintro _ rfl
    apply eY 2; simp [q, ld_26_0_26]
    refine cd (!x9) (by simp [q, ld_26_0_26]) (fun hb10 => ?_) (fun hb10 => ?_)
    ·have h := cT hb10 h
     apply eY 5; simp [q, ld_26_0_26]
     obtain rfl := sj h
     exact (hF hr (by simp [q, ld_26_0_26]) rfl).1
    ·have h := cF hb10 h
     apply eY 6; simp [q, ld_26_0_26]
     exact lm (hJ1 _ _ _ _ ⟨(IntKind.i64.wrap (v2 + 1)), h, by simp [q, ld_26_0_26]⟩)
   ·have h := cF hb4 h
    refine Stk.ex rfl ?_
    apply eY 5; simp [q]
    obtain rfl := sj h
    exact (hF hr (by simp [q]) rfl).1
attribute [-simp] Go.Proofs.YtappiofmkoelnaaGreatDoorW.Ah.splice
open Go.Proofs.YtappiofmkoelnaaGreatDoorW.Ah Go.Proofs.YtappiofmkoelnaaGreatDoor
set_option linter.unusedVariables false
set_option linter.unusedSimpArgs false
set_option maxRecDepth 8000
attribute [local simp] T.t2 T.t3 T.t4 T.t5 T.t9 T.t22 T.t24 T.t26 T.t29 T.t30 T.t31 T.t33 T.t37 T.t39 T.t68 T.t72 List.range List.range.loop
attribute [-simp] appendAV fillAV
theorem ok_aal_AType (F : Nat) (a0 : (List AType)) (a1 : (List AType)) (φ2 : AType → AType → Option Bool) (g2 : FuncId) (first2 caps2 : List AV) (fr2 : freeL first2 = true ∧ freeL caps2 = true) (hφ2 : ∀ y0 y1 r, φ2 y0 y1 = some r → RunF Tryz.prog T.T g2 (first2 ++ [.agg (c26 y0), .agg (c26 y1)] ++ caps2) (.sc (.bool r))) (r : Bool) (h : aal_AType F a0 a1 φ2 = some r) : RunF Tryz.prog T.T 155 [.ssl (encs c26 a0) a0.length false, .ssl (encs c26 a1) a1.length false, .fn (.func g2) first2 caps2] (.sc (.bool r)) := by
  rw [aal_AType] at h
  refine RunF.z Tryz.func155 rfl rfl rfl rfl rfl (fun C hr => ?_)
  refine gn (fun t H n => t 0 = .ssl (encs c26 a0) a0.length false ∧ t 1 = .ssl (encs c26 a1) a1.length false ∧ t 2 = .fn (.func g2) first2 caps2) ⟨by simp, by simp, by simp⟩ fun t H n q => ?_
  obtain ⟨x1, hx1, h⟩ := bnd h
  apply eY 9; simp [q]
  refine cw (ok_sEqType F _ _ _ _ _ _ fr2 hφ2 _ hx1) (by simp [q]) rfl rfl (by simp [q]) (.cons (.free (freeL_encs fr26 _)) (.cons (.free (freeL_encs fr26 _)) (.cons (.free (by simp [free, fr2])) (.nil)))) rfl ?_
  rintro _ rfl
  apply eY 3; simp [q]
  obtain rfl := sj h
  exact (hF hr (by simp [q]) rfl).1
theorem okB_ast_sameType (F : Nat) (ρ88 : AType → AType → Option Bool) (hρ88 : ∀ a0 a1 r, ρ88 a0 a1 = some r → RunF Tryz.prog T.T 88 [.agg (c26 a0), .agg (c26 a1)] (.sc (.bool r))) (a0 : AType) (a1 : AType) (r : Bool) (h : ast_sameType_B F ρ88 a0 a1 = some r) : RunF Tryz.prog T.T 88 [.agg (c26 a0), .agg (c26 a1)] (.sc (.bool r)) := by
  rw [ast_sameType_B] at h
  refine RunF.z Tryz.func88 rfl rfl rfl rfl rfl (fun C hr => ?_)
  refine gn (fun t H n => t 0 = .agg (c26 a0) ∧ t 1 = .agg (c26 a1)) ⟨by simp, by simp⟩ fun t H n q => ?_
  apply eY 2; simp [q]
  refine gn (fun t H n => t 0 = .agg (c26 a0) ∧ t 1 = .agg (c26 a1)) (by simp [q]) fun t H n q => ?_
  refine Stk.om (mop_box T.t26 (cs := c26 a0) (by show partOk (t 0) = true; rw [q.1]; rfl) (by show cellsOf (t 0) = _; rw [q.1]; rfl)) (by simp [q]) rfl (fun t' ht' => ?_)
  refine gn (fun t H n => ∃ b1, t 1 = .agg (c26 a1) ∧ t 2 = .own b1 0 ∧ H b1 = some (.cells (c26 a0) 26) ∧ b1 < n) ⟨n, j2 (by simp [ht', q]) ⟨upd_same _ _ _, Nat.lt_succ_self _⟩⟩ fun t H n ⟨b1, q⟩ => ?_
  refine Stk.om (mop_box T.t26 (cs := c26 a1) (by show partOk (t 1) = true; rw [q.1]; rfl) (by show cellsOf (t 1) = _; rw [q.1]; rfl)) (by simp [q]) rfl (fun t' ht' => ?_)
  refine gn (fun t H n => ∃ b2, t 2 = .own b1 0 ∧ t 3 = .own b2 0 ∧ H b1 = some (.cells (c26 a0) 26) ∧ b1 < n ∧ H b2 = some (.cells (c26 a1) 26) ∧ b2 < n ∧ b1 ≠ b2) ⟨n, j2 (by simp [ht', q]) ⟨(upd_ne _ _ (Nat.ne_of_lt q.2.2.2)).trans q.2.2.1, Nat.lt_succ_of_lt q.2.2.2, upd_same _ _ _, Nat.lt_succ_self _, Nat.ne_of_lt q.2.2.2⟩⟩ fun t H n ⟨b2, q⟩ => ?_
  apply eY 10; simp [q, ld_26_0_3]
  refine Stk.gd 6 10 16 (fun z => .sc (.bool (z && (a0.Name.toList == a1.Name.toList)))) (w := (a0.Kind == a1.Kind)) (by simp [q, ld_26_0_3]) (by simp [q, ld_26_0_3, ld_26_1_9]) (by simp [q, ld_26_0_3, ld_26_1_9]) ?_; simp [q, ld_26_0_3]
  apply eY 1; simp [q, ld_26_0_3]
  refine gn (fun t H n => t 2 = .own b1 0 ∧ t 3 = .own b2 0 ∧ t 17 = .sc (.bool ((a0.Kind == a1.Kind) && (a0.Name.toList == a1.Name.toList))) ∧ H b1 = some (.cells (c26 a0) 26) ∧ b1 < n ∧ H b2 = some (.cells (c26 a1) 26) ∧ b2 < n ∧ b1 ≠ b2) (by simp [q, ld_26_0_3]) fun t H n q => ?_
  obtain ⟨K1, hK1, h⟩ := jnd h
  refine Stk.jo 6 (fun t H n => ∃ v3 : Bool, K1 v3 = some r ∧ t 23 = .sc (.bool v3)) (fun J1 hJ1 => ?_) ?_
  · rcases Bool.eq_false_or_eq_true ((a0.Kind == a1.Kind) && (a0.Name.toList == a1.Name.toList)) with hb1 | hb1
    · obtain ⟨f2, f3, f17, b_b1, l_b1, b_b2, l_b2, d_b1_b2⟩ := q
      rw [hb1] at f17
      replace h := cT hb1 h
      obtain ⟨x4, hx4, h⟩ := bnd h
      apply eY 4; simp [f2, f3, f17, b_b1, b_b2, ld_26_2_24]
      refine cw (ok_aal_AType F _ _ _ 88 [] [] (by and_intros <;> first | assumption | simp [freeL, free]) (fun y0 y1 r h => hρ88 y0 y1 r h) _ hx4) (by simp [f2, f3, f17, b_b1, b_b2, ld_26_2_24]) rfl rfl (by simp [f2, f3, f17, b_b1, b_b2, ld_26_2_24]) (.cons (.free (freeL_encs fr26 _)) (.cons (.free (freeL_encs fr26 _)) (.cons (.fn .nil (.nil)) (.nil)))) rfl ?_
      rintro _ rfl
      apply eY 2; simp [f2, f3, f17, b_b1, b_b2, ld_26_2_24]
      exact l0 (hJ1 _ _ _ ⟨x4, h, by simp [f2, f3, f17, b_b1, b_b2, ld_26_2_24]⟩)
    · obtain ⟨f2, f3, f17, b_b1, l_b1, b_b2, l_b2, d_b1_b2⟩ := q
      rw [hb1] at f17
      replace h := cF hb1 h
      apply eY 7; simp [f2, f3, f17, b_b1, b_b2]
      exact l0 (hJ1 _ _ _ ⟨false, h, by simp [f2, f3, f17, b_b1, b_b2]⟩)
  clear q h
  rintro t H n ⟨v3, h, q⟩
  subst hK1
  apply eY 3; simp [q]
  obtain rfl := sj h
  exact (hF hr (by simp [q]) rfl).1
theorem okG_ast_sameType : ∀ F : Nat, (∀ (a0 : AType) (a1 : AType) (r : Bool), ast_sameType F a0 a1 = some r → RunF Tryz.prog T.T 88 [.agg (c26 a0), .agg (c26 a1)] (.sc (.bool r)))
  | 0 => (fun a0 a1 r h => by rw [ast_sameType] at h; cases h)
  | F + 1 => (fun a0 a1 r h => okB_ast_sameType F (ast_sameType F) (okG_ast_sameType F) a0 a1 r (by rw [ast_sameType] at h; exact h))
theorem ok_ast_sameType (F : Nat) (a0 : AType) (a1 : AType) (r : Bool) (h : ast_sameType F a0 a1 = some r) : RunF Tryz.prog T.T 88 [.agg (c26 a0), .agg (c26 a1)] (.sc (.bool r)) := (okG_ast_sameType F) a0 a1 r h
@[simp] abbrev Q3_1 (a0 : (List Int)) (a1 : (List Int)) (t : Nat → AV) : Prop := t 0 = .ssl (encs c5 a0) a0.length false ∧ t 1 = .ssl (encs c5 a1) a1.length false
theorem ok_sEqB (F : Nat) (a0 : (List Int)) (a1 : (List Int)) (r : Bool) (h : sEqB F a0 a1 = some r) : RunF Tryz.prog T.T 95 [.ssl (encs c5 a0) a0.length false, .ssl (encs c5 a1) a1.length false] (.sc (.bool r)) := by
  rw [sEqB] at h
  refine RunF.z Tryz.func95 rfl rfl rfl rfl rfl (fun C hr => ?_)
  refine gn (fun t H n => Q3_1 a0 a1 t) ⟨by simp, by simp⟩ fun t H n q => ?_
  apply eY 13; simp [q]
  refine cd ((a0.length : Int) != (a1.length : Int)) (by simp [q]) (fun hb1 => ?_) (fun hb1 => ?_)
  ·have h := cT hb1 h
   apply eY 5; simp [q]
   obtain rfl := sj h
   exact (hF hr (by simp [q]) rfl).1
  ·have h := cF hb1 h
   apply eY 9; simp [q]
   refine gn (fun t H n => Q3_1 a0 a1 t ∧ t 12 = .sc (.int .i64 (a0.length : Int)) ∧ t 13 = .sc (.int .i64 0)) (by simp [q]) fun t H n q => ?_
   refine Stk.lo (fun μ t H n => ∃ v2 : Int, sEqB_L0 F a0 a1 μ v2 = some r ∧ t 0 = .ssl (encs c5 a0) a0.length false ∧ t 1 = .ssl (encs c5 a1) a1.length false ∧ t 12 = .sc (.int .i64 (a0.length : Int)) ∧ t 13 = .sc (.int .i64 v2)) F ⟨0, h, q.1.1, q.1.2, q.2.1, q.2.2⟩ ?_
   clear q h
   rintro J1 hJ1 μ t H n ⟨v2, h, q⟩
   cases μ with
   | zero => exact absurd h (by simp [sEqB_L0])
   | succ μ =>
   rw [sEqB_L0] at h
   apply eY 5; simp [q]
   refine cd (decide (v2 < (a0.length : Int))) (by simp [q]) (fun hb4 => ?_) (fun hb4 => ?_)
   ·have h := cT hb4 h
    apply eY 9; simp [q]
    refine gn (fun t H n => Q3_1 a0 a1 t ∧ t 5 = .sc (.int .i64 v2) ∧ t 12 = .sc (.int .i64 (a0.length : Int)) ∧ t 13 = .sc (.int .i64 v2)) (by simp [q]) fun t H n q => ?_
    obtain ⟨n0, hn0⟩ : ∃ m, m = n := ⟨n, rfl⟩
    have ln0 : n0 ≤ n := Nat.le_of_eq hn0
    refine Stk.rgD [.rd [], .rd [], .rd [], .rd [], .rd [], .rd [], .rd [], .rd [], .rd []] none (by kernel_rfl) (by rfl) rfl (by simp [below]) rfl ?_
    obtain ⟨x5, hx5, h⟩ := bnd h
    obtain ⟨i0x5, i1x5, i2x5, _⟩ := idx_ok hx5
    have ex5_0_5 : partOf T.T 5 (encs c5 a0) (v2.toNat) = some (.sc (.int .u8 x5)) := by
        have e0 := part_elem0 (e := c5) (z := 1) (T := T.T) (ty := 5) T.t5 (by decide) (by decide) hx5 0 (by decide)
        (try simp only [Nat.mul_one, Nat.add_zero] at e0)
        exact e0.trans rfl
    obtain ⟨x6, hx6, h⟩ := bnd h
    obtain ⟨i0x6, i1x6, i2x6, _⟩ := idx_ok hx6
    have ex6_0_5 : partOf T.T 5 (encs c5 a1) (v2.toNat) = some (.sc (.int .u8 x6)) := by
        have e0 := part_elem0 (e := c5) (z := 1) (T := T.T) (ty := 5) T.t5 (by decide) (by decide) hx6 0 (by decide)
        (try simp only [Nat.mul_one, Nat.add_zero] at e0)
        exact e0.trans rfl
    apply eY 10; simp [q, i0x5, i1x5, pd5, ex5_0_5, i0x6, i1x6, ex6_0_5]
    refine cd (x5 != x6) (by simp [q, i0x5, i1x5, pd5, ex5_0_5, i0x6, i1x6, ex6_0_5]) (fun hb7 => ?_) (fun hb7 => ?_)
    ·have h := cT hb7 h
     apply eY 5; simp [q, i0x5, i1x5, pd5, ex5_0_5, i0x6, i1x6, ex6_0_5]
     obtain rfl := sj h
     exact (hF hr (by simp [q, i0x5, i1x5, pd5, ex5_0_5, i0x6, i1x6, ex6_0_5]) rfl).1
    ·have h := cF hb7 h
     apply eY 6; simp [q, i0x5, i1x5, pd5, ex5_0_5, i0x6, i1x6, ex6_0_5]
     exact lm (hJ1 _ _ _ _ ⟨(IntKind.i64.wrap (v2 + 1)), h, by simp [ln0, q, i0x5, i1x5, pd5, ex5_0_5, i0x6, i1x6, ex6_0_5]⟩)
   ·have h := cF hb4 h
    refine Stk.ex rfl ?_
    apply eY 5; simp [q]
    obtain rfl := sj h
    exact (hF hr (by simp [q]) rfl).1
@[simp] abbrev Q3_2 (a0 : (List AExpr)) (a1 : (List AExpr)) (caps2 : List AV) (first2 : List AV) (g2 : FuncId) (t : Nat → AV) : Prop := t 1 = .ssl (encs c33 a1) a1.length false ∧ t 2 = .fn (.func g2) first2 caps2 ∧ t 15 = .ssl (encs c33 a0) a0.length false ∧ t 16 = .sc (.int .i64 (a0.length : Int))
theorem ok_sEqExpr (F : Nat) (a0 : (List AExpr)) (a1 : (List AExpr)) (φ2 : AExpr → AExpr → Option Bool) (g2 : FuncId) (first2 caps2 : List AV) (fr2 : freeL first2 = true ∧ freeL caps2 = true) (hφ2 : ∀ y0 y1 r, φ2 y0 y1 = some r → RunF Tryz.prog T.T g2 (first2 ++ [.agg (c33 y0), .agg (c33 y1)] ++ caps2) (.sc (.bool r))) (r : Bool) (h : sEqExpr F a0 a1 φ2 = some r) : RunF Tryz.prog T.T 163 [.ssl (encs c33 a0) a0.length false, .ssl (encs c33 a1) a1.length false, .fn (.func g2) first2 caps2] (.sc (.bool r)) := by
  rw [sEqExpr] at h
  refine RunF.z Tryz.func163 rfl rfl rfl rfl rfl (fun C hr => ?_)
  refine gn (fun t H n => t 0 = .ssl (encs c33 a0) a0.length false ∧ t 1 = .ssl (encs c33 a1) a1.length false ∧ t 2 = .fn (.func g2) first2 caps2) ⟨by simp, by simp, by simp⟩ fun t H n q => ?_
  apply eY 13; simp [q]
  refine cd ((a0.length : Int) != (a1.length : Int)) (by simp [q]) (fun hb1 => ?_) (fun hb1 => ?_)
  ·have h := cT hb1 h
   apply eY 5; simp [q]
   obtain rfl := sj h
   exact (hF hr (by simp [q]) rfl).1
  ·have h := cF hb1 h
   apply eY 9; simp [q]
   refine gn (fun t H n => Q3_2 a0 a1 caps2 first2 g2 t ∧ t 17 = .sc (.int .i64 0)) (by simp [q]) fun t H n q => ?_
   refine Stk.lo (fun μ t H n => ∃ v2 : Int, sEqExpr_L0 F a0 a1 φ2 μ v2 = some r ∧ t 1 = .ssl (encs c33 a1) a1.length false ∧ t 2 = .fn (.func g2) first2 caps2 ∧ t 15 = .ssl (encs c33 a0) a0.length false ∧ t 16 = .sc (.int .i64 (a0.length : Int)) ∧ t 17 = .sc (.int .i64 v2)) F ⟨0, h, q.1.1, q.1.2.1, q.1.2.2.1, q.1.2.2.2, q.2⟩ ?_
   clear q h
   rintro J1 hJ1 μ t H n ⟨v2, h, q⟩
   cases μ with
   | zero => exact absurd h (by simp [sEqExpr_L0])
   | succ μ =>
   rw [sEqExpr_L0] at h
   apply eY 5; simp [q]
   refine cd (decide (v2 < (a0.length : Int))) (by simp [q]) (fun hb4 => ?_) (fun hb4 => ?_)
   ·have h := cT hb4 h
    obtain ⟨x5, hx5, h⟩ := bnd h
    obtain ⟨i0x5, i1x5, i2x5, _⟩ := idx_ok hx5
    have ex5_0_33 : partOf T.T 33 (encs c33 a0) (v2.toNat * 8) = some (.agg (c33 x5)) := (part_elem0 (e := c33) (z := 8) (ty := 33) T.t33 (by decide) (by decide) hx5 0 (by decide)).trans (ld_33_0_33 _)
    apply eY 8; simp [q, i0x5, i1x5, pd33, ex5_0_33]
    refine Stk.oz T.t33 (cs := c33 (AExpr.mk 0 (APos.mk 0 0) 0 [] ⟨#[]⟩ [] [])) (by rw [u33]; rfl) rfl (by simp [q, i0x5, i1x5, pd33, ex5_0_33]) rfl (fun t' ht' => ?_)
    refine gn (fun t H n => ∃ b6, Q3_2 a0 a1 caps2 first2 g2 t ∧ t 8 = .own b6 0 ∧ t 17 = .sc (.int .i64 v2) ∧ t 19 = .sc (.int .i64 v2) ∧ t 21 = .agg (c33 x5) ∧ H b6 = some (.cells (c33 (AExpr.mk 0 (APos.mk 0 0) 0 [] ⟨#[]⟩ [] [])) 33) ∧ b6 < n) ⟨n, j5 (by simp [ht', q, i0x5, i1x5, pd33, ex5_0_33]) ⟨upd_same _ _ _, Nat.lt_succ_self _⟩⟩ fun t H n ⟨b6, ⟨f1, f2, f15, f16⟩, f8, f17, f19, f21, b_b6, l_b6⟩ => ?_
    apply eY 1; simp [f1, f2, f8, f15, f16, f17, f19, f21, b_b6]
    refine Stk.om (mop_store (z := 8) (o := 0) (v := .agg (c33 x5)) rfl (by simp [f1, f2, f8, f15, f16, f17, f19, f21, b_b6]) b_b6 (by simp [f1, f2, f8, f15, f16, f17, f19, f21, b_b6]) (len33 _) (by rw [len33]; decide) (ok33 _) (st_33_0_33 _ _)) (by simp [f1, f2, f8, f15, f16, f17, f19, f21, b_b6]) rfl (fun t' ht' => ?_)
    refine gn (fun t H n => Q3_2 a0 a1 caps2 first2 g2 t ∧ t 7 = .sc (.int .i64 v2) ∧ t 8 = .own b6 0 ∧ t 17 = .sc (.int .i64 v2) ∧ H b6 = some (.cells (c33 x5) 33) ∧ b6 < n) (j4 (by simp [ht', f1, f2, f8, f15, f16, f17, f19, f21, b_b6]) ⟨upd_same _ _ _, l_b6⟩) fun t H n q => ?_
    obtain ⟨x7, hx7, h⟩ := bnd h
    obtain ⟨i0x7, i1x7, i2x7, _⟩ := idx_ok hx7
    have ex7_0_33 : partOf T.T 33 (encs c33 a1) (v2.toNat * 8) = some (.agg (c33 x7)) := (part_elem0 (e := c33) (z := 8) (ty := 33) T.t33 (by decide) (by decide) hx7 0 (by decide)).trans (ld_33_0_33 _)
    apply eY 7; simp [q, i0x7, i1x7, pd33, ex7_0_33]
    refine Stk.oz T.t33 (cs := c33 (AExpr.mk 0 (APos.mk 0 0) 0 [] ⟨#[]⟩ [] [])) (by rw [u33]; rfl) rfl (by simp [q, i0x7, i1x7, pd33, ex7_0_33]) rfl (fun t' ht' => ?_)
    refine gn (fun t H n => ∃ b8, Q3_2 a0 a1 caps2 first2 g2 t ∧ t 8 = .own b6 0 ∧ t 9 = .own b8 0 ∧ t 17 = .sc (.int .i64 v2) ∧ t 25 = .agg (c33 x7) ∧ H b6 = some (.cells (c33 x5) 33) ∧ b6 < n ∧ H b8 = some (.cells (c33 (AExpr.mk 0 (APos.mk 0 0) 0 [] ⟨#[]⟩ [] [])) 33) ∧ b8 < n ∧ b6 ≠ b8) ⟨n, j5 (by simp [ht', q, i0x7, i1x7, pd33, ex7_0_33]) ⟨(upd_ne _ _ (Nat.ne_of_lt q.2.2.2.2.2)).trans q.2.2.2.2.1, Nat.lt_succ_of_lt q.2.2.2.2.2, upd_same _ _ _, Nat.lt_succ_self _, Nat.ne_of_lt q.2.2.2.2.2⟩⟩ fun t H n ⟨b8, ⟨f1, f2, f15, f16⟩, f8, f9, f17, f25, b_b6, l_b6, b_b8, l_b8, d_b6_b8⟩ => ?_
    refine Stk.om (mop_store (z := 8) rfl f9 b_b8 f25 (len33 _) (by rw [len33]; decide) (ok33 _) (st_33_0_33 _ _)) (by simp [f1, f2, f8, f9, f15, f16, f17, f25]) rfl (fun t' ht' => ?_)
    refine gn (fun t H n => Q3_2 a0 a1 caps2 first2 g2 t ∧ t 8 = .own b6 0 ∧ t 9 = .own b8 0 ∧ t 17 = .sc (.int .i64 v2) ∧ H b6 = some (.cells (c33 x5) 33) ∧ b6 < n ∧ H b8 = some (.cells (c33 x7) 33) ∧ b8 < n ∧ b6 ≠ b8) (j4 (by simp [ht', f1, f2, f15, f16, f8, f9, f17]) ⟨(upd_ne _ _ d_b6_b8).trans b_b6, l_b6, upd_same _ _ _, l_b8, d_b6_b8⟩) fun t H n q => ?_
    obtain ⟨x9, hx9, h⟩ := bnd h
    apply eY 6; simp [q, ld_33_0_33]
    refine Stk.cv (g := g2) (first := first2) (caps := caps2) (args := first2 ++ [.agg (c33 x5), .agg (c33 x7)] ++ caps2) (args' := first2 ++ [.agg (c33 x5), .agg (c33 x7)] ++ caps2) (v := .sc (.bool x9)) [] (hφ2 _ _ _ hx9) (by simp [q, ld_33_0_33]) rfl (by simp [q, ld_33_0_33]) (by simp [q, ld_33_0_33]) (viewL_mid (x := [.agg (c33 x5), .agg (c33 x7)]) (y := [.agg (c33 x5), .agg (c33 x7)]) fr2.1 fr2.2 (.cons (.free (fr33 _)) (.cons (.free (fr33 _)) (.nil)))) (.inl ⟨rfl, rfl⟩) ?_
    rintro _ rfl
    apply eY 2; simp [q, ld_33_0_33]
    refine cd (!x9) (by simp [q, ld_33_0_33]) (fun hb10 => ?_) (fun hb10 => ?_)
    ·have h := cT hb10 h
     apply eY 5; simp [q, ld_33_0_33]
     obtain rfl := sj h
     exact (hF hr (by simp [q, ld_33_0_33]) rfl).1
    ·have h := cF hb10 h
     apply eY 6; simp [q, ld_33_0_33]
     exact lm (hJ1 _ _ _ _ ⟨(IntKind.i64.wrap (v2 + 1)), h, by simp [q, ld_33_0_33]⟩)
   ·have h := cF hb4 h
    refine Stk.ex rfl ?_
    apply eY 5; simp [q]
    obtain rfl := sj h
    exact (hF hr (by simp [q]) rfl).1
theorem ok_aal_AExpr (F : Nat) (a0 : (List AExpr)) (a1 : (List AExpr)) (φ2 : AExpr → AExpr → Option Bool) (g2 : FuncId) (first2 caps2 : List AV) (fr2 : freeL first2 = true ∧ freeL caps2 = true) (hφ2 : ∀ y0 y1 r, φ2 y0 y1 = some r → RunF Tryz.prog T.T g2 (first2 ++ [.agg (c33 y0), .agg (c33 y1)] ++ caps2) (.sc (.bool r))) (r : Bool) (h : aal_AExpr F a0 a1 φ2 = some r) : RunF Tryz.prog T.T 96 [.ssl (encs c33 a0) a0.length false, .ssl (encs c33 a1) a1.length false, .fn (.func g2) first2 caps2] (.sc (.bool r)) := by
  rw [aal_AExpr] at h
  refine RunF.z Tryz.func96 rfl rfl rfl rfl rfl (fun C hr => ?_)
  refine gn (fun t H n => t 0 = .ssl (encs c33 a0) a0.length false ∧ t 1 = .ssl (encs c33 a1) a1.length false ∧ t 2 = .fn (.func g2) first2 caps2) ⟨by simp, by simp, by simp⟩ fun t H n q => ?_
  obtain ⟨x1, hx1, h⟩ := bnd h
  apply eY 9; simp [q]
  refine cw (ok_sEqExpr F _ _ _ _ _ _ fr2 hφ2 _ hx1) (by simp [q]) rfl rfl (by simp [q]) (.cons (.free (freeL_encs fr33 _)) (.cons (.free (freeL_encs fr33 _)) (.cons (.free (by simp [free, fr2])) (.nil)))) rfl ?_
  rintro _ rfl
  apply eY 3; simp [q]
  obtain rfl := sj h
  exact (hF hr (by simp [q]) rfl).1
@[simp] abbrev Q3_3 (a0 : (List AArm)) (a1 : (List AArm)) (caps2 : List AV) (first2 : List AV) (g2 : FuncId) (t : Nat → AV) : Prop := t 1 = .ssl (encs c68 a1) a1.length false ∧ t 2 = .fn (.func g2) first2 caps2 ∧ t 15 = .ssl (encs c68 a0) a0.length false ∧ t 16 = .sc (.int .i64 (a0.length : Int))
theorem ok_sEqArm (F : Nat) (a0 : (List AArm)) (a1 : (List AArm)) (φ2 : AArm → AArm → Option Bool) (g2 : FuncId) (first2 caps2 : List AV) (fr2 : freeL first2 = true ∧ freeL caps2 = true) (hφ2 : ∀ y0 y1 r, φ2 y0 y1 = some r → RunF Tryz.prog T.T g2 (first2 ++ [.agg (c68 y0), .agg (c68 y1)] ++ caps2) (.sc (.bool r))) (r : Bool) (h : sEqArm F a0 a1 φ2 = some r) : RunF Tryz.prog T.T 164 [.ssl (encs c68 a0) a0.length false, .ssl (encs c68 a1) a1.length false, .fn (.func g2) first2 caps2] (.sc (.bool r)) := by
  rw [sEqArm] at h
  refine RunF.z Tryz.func164 rfl rfl rfl rfl rfl (fun C hr => ?_)
  refine gn (fun t H n => t 0 = .ssl (encs c68 a0) a0.length false ∧ t 1 = .ssl (encs c68 a1) a1.length false ∧ t 2 = .fn (.func g2) first2 caps2) ⟨by simp, by simp, by simp⟩ fun t H n q => ?_
  apply eY 13; simp [q]
  refine cd ((a0.length : Int) != (a1.length : Int)) (by simp [q]) (fun hb1 => ?_) (fun hb1 => ?_)
  ·have h := cT hb1 h
   apply eY 5; simp [q]
   obtain rfl := sj h
   exact (hF hr (by simp [q]) rfl).1
  ·have h := cF hb1 h
   apply eY 9; simp [q]
   refine gn (fun t H n => Q3_3 a0 a1 caps2 first2 g2 t ∧ t 17 = .sc (.int .i64 0)) (by simp [q]) fun t H n q => ?_
   refine Stk.lo (fun μ t H n => ∃ v2 : Int, sEqArm_L0 F a0 a1 φ2 μ v2 = some r ∧ t 1 = .ssl (encs c68 a1) a1.length false ∧ t 2 = .fn (.func g2) first2 caps2 ∧ t 15 = .ssl (encs c68 a0) a0.length false ∧ t 16 = .sc (.int .i64 (a0.length : Int)) ∧ t 17 = .sc (.int .i64 v2)) F ⟨0, h, q.1.1, q.1.2.1, q.1.2.2.1, q.1.2.2.2, q.2⟩ ?_
   clear q h
   rintro J1 hJ1 μ t H n ⟨v2, h, q⟩
   cases μ with
   | zero => exact absurd h (by simp [sEqArm_L0])
   | succ μ =>
   rw [sEqArm_L0] at h
   apply eY 5; simp [q]
   refine cd (decide (v2 < (a0.length : Int))) (by simp [q]) (fun hb4 => ?_) (fun hb4 => ?_)
   ·have h := cT hb4 h
    obtain ⟨x5, hx5, h⟩ := bnd h
    obtain ⟨i0x5, i1x5, i2x5, _⟩ := idx_ok hx5
    have ex5_0_68 : partOf T.T 68 (encs c68 a0) (v2.toNat * 14) = some (.agg (c68 x5)) := (part_elem0 (e := c68) (z := 14) (ty := 68) T.t68 (by decide) (by decide) hx5 0 (by decide)).trans (ld_68_0_68 _)
    apply eY 8; simp [q, i0x5, i1x5, pd68, ex5_0_68]
    refine Stk.oz T.t68 (cs := c68 (AArm.mk (APat.mk 0 (APos.mk 0 0) ⟨#[]⟩ 0 []) (AExpr.mk 0 (APos.mk 0 0) 0 [] ⟨#[]⟩ [] []))) (by rw [u68]; rfl) rfl (by simp [q, i0x5, i1x5, pd68, ex5_0_68]) rfl (fun t' ht' => ?_)
    refine gn (fun t H n => ∃ b6, Q3_3 a0 a1 caps2 first2 g2 t ∧ t 8 = .own b6 0 ∧ t 17 = .sc (.int .i64 v2) ∧ t 19 = .sc (.int .i64 v2) ∧ t 21 = .agg (c68 x5) ∧ H b6 = some (.cells (c68 (AArm.mk (APat.mk 0 (APos.mk 0 0) ⟨#[]⟩ 0 []) (AExpr.mk 0 (APos.mk 0 0) 0 [] ⟨#[]⟩ [] []))) 68) ∧ b6 < n) ⟨n, j5 (by simp [ht', q, i0x5, i1x5, pd68, ex5_0_68]) ⟨upd_same _ _ _, Nat.lt_succ_self _⟩⟩ fun t H n ⟨b6, ⟨f1, f2, f15, f16⟩, f8, f17, f19, f21, b_b6, l_b6⟩ => ?_
    apply eY 1; simp [f1, f2, f8, f15, f16, f17, f19, f21, b_b6]
    refine Stk.om (mop_store (z := 14) (o := 0) (v := .agg (c68 x5)) rfl (by simp [f1, f2, f8, f15, f16, f17, f19, f21, b_b6]) b_b6 (by simp [f1, f2, f8, f15, f16, f17, f19, f21, b_b6]) (len68 _) (by rw [len68]; decide) (ok68 _) (st_68_0_68 _ _)) (by simp [f1, f2, f8, f15, f16, f17, f19, f21, b_b6]) rfl (fun t' ht' => ?_)
    refine gn (fun t H n => Q3_3 a0 a1 caps2 first2 g2 t ∧ t 7 = .sc (.int .i64 v2) ∧ t 8 = .own b6 0 ∧ t 17 = .sc (.int .i64 v2) ∧ H b6 = some (.cells (c68 x5) 68) ∧ b6 < n) (j4 (by simp [ht', f1, f2, f8, f15, f16, f17, f19, f21, b_b6]) ⟨upd_same _ _ _, l_b6⟩) fun t H n q => ?_
    obtain ⟨x7, hx7, h⟩ := bnd h
    obtain ⟨i0x7, i1x7, i2x7, _⟩ := idx_ok hx7
    have ex7_0_68 : partOf T.T 68 (encs c68 a1) (v2.toNat * 14) = some (.agg (c68 x7)) := (part_elem0 (e := c68) (z := 14) (ty := 68) T.t68 (by decide) (by decide) hx7 0 (by decide)).trans (ld_68_0_68 _)
    apply eY 7; simp [q, i0x7, i1x7, pd68, ex7_0_68]
    refine Stk.oz T.t68 (cs := c68 (AArm.mk (APat.mk 0 (APos.mk 0 0) ⟨#[]⟩ 0 []) (AExpr.mk 0 (APos.mk 0 0) 0 [] ⟨#[]⟩ [] []))) (by rw [u68]; rfl) rfl (by simp [q, i0x7, i1x7, pd68, ex7_0_68]) rfl (fun t' ht' => ?_)
    refine gn (fun t H n => ∃ b8, Q3_3 a0 a1 caps2 first2 g2 t ∧ t 8 = .own b6 0 ∧ t 9 = .own b8 0 ∧ t 17 = .sc (.int .i64 v2) ∧ t 25 = .agg (c68 x7) ∧ H b6 = some (.cells (c68 x5) 68) ∧ b6 < n ∧ H b8 = some (.cells (c68 (AArm.mk (APat.mk 0 (APos.mk 0 0) ⟨#[]⟩ 0 []) (AExpr.mk 0 (APos.mk 0 0) 0 [] ⟨#[]⟩ [] []))) 68) ∧ b8 < n ∧ b6 ≠ b8) ⟨n, j5 (by simp [ht', q, i0x7, i1x7, pd68, ex7_0_68]) ⟨(upd_ne _ _ (Nat.ne_of_lt q.2.2.2.2.2)).trans q.2.2.2.2.1, Nat.lt_succ_of_lt q.2.2.2.2.2, upd_same _ _ _, Nat.lt_succ_self _, Nat.ne_of_lt q.2.2.2.2.2⟩⟩ fun t H n ⟨b8, ⟨f1, f2, f15, f16⟩, f8, f9, f17, f25, b_b6, l_b6, b_b8, l_b8, d_b6_b8⟩ => ?_
    refine Stk.om (mop_store (z := 14) rfl f9 b_b8 f25 (len68 _) (by rw [len68]; decide) (ok68 _) (st_68_0_68 _ _)) (by simp [f1, f2, f8, f9, f15, f16, f17, f25]) rfl (fun t' ht' => ?_)
    refine gn (fun t H n => Q3_3 a0 a1 caps2 first2 g2 t ∧ t 8 = .own b6 0 ∧ t 9 = .own b8 0 ∧ t 17 = .sc (.int .i64 v2) ∧ H b6 = some (.cells (c68 x5) 68) ∧ b6 < n ∧ H b8 = some (.cells (c68 x7) 68) ∧ b8 < n ∧ b6 ≠ b8) (j4 (by simp [ht', f1, f2, f15, f16, f8, f9, f17]) ⟨(upd_ne _ _ d_b6_b8).trans b_b6, l_b6, upd_same _ _ _, l_b8, d_b6_b8⟩) fun t H n q => ?_
    obtain ⟨x9, hx9, h⟩ := bnd h
    apply eY 6; simp [q, ld_68_0_68]
    refine Stk.cv (g := g2) (first := first2) (caps := caps2) (args := first2 ++ [.agg (c68 x5), .agg (c68 x7)] ++ caps2) (args' := first2 ++ [.agg (c68 x5), .agg (c68 x7)] ++ caps2) (v := .sc (.bool x9)) [] (hφ2 _ _ _ hx9) (by simp [q, ld_68_0_68]) rfl (by simp [q, ld_68_0_68]) (by simp [q, ld_68_0_68]) (viewL_mid (x := [.agg (c68 x5), .agg (c68 x7)]) (y := [.agg (c68 x5), .agg (c68 x7)]) fr2.1 fr2.2 (.cons (.free (fr68 _)) (.cons (.free (fr68 _)) (.nil)))) (.inl ⟨rfl, rfl⟩) ?_
    rintro _ rfl
    apply eY 2; simp [q, ld_68_0_68]
    refine cd (!x9) (by simp [q, ld_68_0_68]) (fun hb10 => ?_) (fun hb10 => ?_)
    ·have h := cT hb10 h
     apply eY 5; simp [q, ld_68_0_68]
     obtain rfl := sj h
     exact (hF hr (by simp [q, ld_68_0_68]) rfl).1
    ·have h := cF hb10 h
     apply eY 6; simp [q, ld_68_0_68]
     exact lm (hJ1 _ _ _ _ ⟨(IntKind.i64.wrap (v2 + 1)), h, by simp [q, ld_68_0_68]⟩)
   ·have h := cF hb4 h
    refine Stk.ex rfl ?_
    apply eY 5; simp [q]
    obtain rfl := sj h
    exact (hF hr (by simp [q]) rfl).1
theorem ok_aal_AArm (F : Nat) (a0 : (List AArm)) (a1 : (List AArm)) (φ2 : AArm → AArm → Option Bool) (g2 : FuncId) (first2 caps2 : List AV) (fr2 : freeL first2 = true ∧ freeL caps2 = true) (hφ2 : ∀ y0 y1 r, φ2 y0 y1 = some r → RunF Tryz.prog T.T g2 (first2 ++ [.agg (c68 y0), .agg (c68 y1)] ++ caps2) (.sc (.bool r))) (r : Bool) (h : aal_AArm F a0 a1 φ2 = some r) : RunF Tryz.prog T.T 97 [.ssl (encs c68 a0) a0.length false, .ssl (encs c68 a1) a1.length false, .fn (.func g2) first2 caps2] (.sc (.bool r)) := by
  rw [aal_AArm] at h
  refine RunF.z Tryz.func97 rfl rfl rfl rfl rfl (fun C hr => ?_)
  refine gn (fun t H n => t 0 = .ssl (encs c68 a0) a0.length false ∧ t 1 = .ssl (encs c68 a1) a1.length false ∧ t 2 = .fn (.func g2) first2 caps2) ⟨by simp, by simp, by simp⟩ fun t H n q => ?_
  obtain ⟨x1, hx1, h⟩ := bnd h
  apply eY 9; simp [q]
  refine cw (ok_sEqArm F _ _ _ _ _ _ fr2 hφ2 _ hx1) (by simp [q]) rfl rfl (by simp [q]) (.cons (.free (freeL_encs fr68 _)) (.cons (.free (freeL_encs fr68 _)) (.cons (.free (by simp [free, fr2])) (.nil)))) rfl ?_
  rintro _ rfl
  apply eY 3; simp [q]
  obtain rfl := sj h
  exact (hF hr (by simp [q]) rfl).1
@[simp] abbrev Q3_4 (a0 : (List APat)) (a1 : (List APat)) (caps2 : List AV) (first2 : List AV) (g2 : FuncId) (t : Nat → AV) : Prop := t 1 = .ssl (encs c39 a1) a1.length false ∧ t 2 = .fn (.func g2) first2 caps2 ∧ t 15 = .ssl (encs c39 a0) a0.length false ∧ t 16 = .sc (.int .i64 (a0.length : Int))
theorem ok_sEqPat (F : Nat) (a0 : (List APat)) (a1 : (List APat)) (φ2 : APat → APat → Option Bool) (g2 : FuncId) (first2 caps2 : List AV) (fr2 : freeL first2 = true ∧ freeL caps2 = true) (hφ2 : ∀ y0 y1 r, φ2 y0 y1 = some r → RunF Tryz.prog T.T g2 (first2 ++ [.agg (c39 y0), .agg (c39 y1)] ++ caps2) (.sc (.bool r))) (r : Bool) (h : sEqPat F a0 a1 φ2 = some r) : RunF Tryz.prog T.T 206 [.ssl (encs c39 a0) a0.length false, .ssl (encs c39 a1) a1.length false, .fn (.func g2) first2 caps2] (.sc (.bool r)) := by
  rw [sEqPat] at h
  refine RunF.z Tryz.func206 rfl rfl rfl rfl rfl (fun C hr => ?_)
  refine gn (fun t H n => t 0 = .ssl (encs c39 a0) a0.length false ∧ t 1 = .ssl (encs c39 a1) a1.length false ∧ t 2 = .fn (.func g2) first2 caps2) ⟨by simp, by simp, by simp⟩ fun t H n q => ?_
  apply eY 13; simp [q]
  refine cd ((a0.length : Int) != (a1.length : Int)) (by simp [q]) (fun hb1 => ?_) (fun hb1 => ?_)
  ·have h := cT hb1 h
   apply eY 5; simp [q]
   obtain rfl := sj h
   exact (hF hr (by simp [q]) rfl).1
  ·have h := cF hb1 h
   apply eY 9; simp [q]
   refine gn (fun t H n => Q3_4 a0 a1 caps2 first2 g2 t ∧ t 17 = .sc (.int .i64 0)) (by simp [q]) fun t H n q => ?_
   refine Stk.lo (fun μ t H n => ∃ v2 : Int, sEqPat_L0 F a0 a1 φ2 μ v2 = some r ∧ t 1 = .ssl (encs c39 a1) a1.length false ∧ t 2 = .fn (.func g2) first2 caps2 ∧ t 15 = .ssl (encs c39 a0) a0.length false ∧ t 16 = .sc (.int .i64 (a0.length : Int)) ∧ t 17 = .sc (.int .i64 v2)) F ⟨0, h, q.1.1, q.1.2.1, q.1.2.2.1, q.1.2.2.2, q.2⟩ ?_
   clear q h
   rintro J1 hJ1 μ t H n ⟨v2, h, q⟩
   cases μ with
   | zero => exact absurd h (by simp [sEqPat_L0])
   | succ μ =>
   rw [sEqPat_L0] at h
   apply eY 5; simp [q]
   refine cd (decide (v2 < (a0.length : Int))) (by simp [q]) (fun hb4 => ?_) (fun hb4 => ?_)
   ·have h := cT hb4 h
    obtain ⟨x5, hx5, h⟩ := bnd h
    obtain ⟨i0x5, i1x5, i2x5, _⟩ := idx_ok hx5
    have ex5_0_39 : partOf T.T 39 (encs c39 a0) (v2.toNat * 6) = some (.agg (c39 x5)) := (part_elem0 (e := c39) (z := 6) (ty := 39) T.t39 (by decide) (by decide) hx5 0 (by decide)).trans (ld_39_0_39 _)
    apply eY 8; simp [q, i0x5, i1x5, pd39, ex5_0_39]
    refine Stk.oz T.t39 (cs := c39 (APat.mk 0 (APos.mk 0 0) ⟨#[]⟩ 0 [])) (by rw [u39]; rfl) rfl (by simp [q, i0x5, i1x5, pd39, ex5_0_39]) rfl (fun t' ht' => ?_)
    refine gn (fun t H n => ∃ b6, Q3_4 a0 a1 caps2 first2 g2 t ∧ t 8 = .own b6 0 ∧ t 17 = .sc (.int .i64 v2) ∧ t 19 = .sc (.int .i64 v2) ∧ t 21 = .agg (c39 x5) ∧ H b6 = some (.cells (c39 (APat.mk 0 (APos.mk 0 0) ⟨#[]⟩ 0 [])) 39) ∧ b6 < n) ⟨n, j5 (by simp [ht', q, i0x5, i1x5, pd39, ex5_0_39]) ⟨upd_same _ _ _, Nat.lt_succ_self _⟩⟩ fun t H n ⟨b6, ⟨f1, f2, f15, f16⟩, f8, f17, f19, f21, b_b6, l_b6⟩ => ?_
    apply eY 1; simp [f1, f2, f8, f15, f16, f17, f19, f21, b_b6]
    refine Stk.om (mop_store (z := 6) (o := 0) (v := .agg (c39 x5)) rfl (by simp [f1, f2, f8, f15, f16, f17, f19, f21, b_b6]) b_b6 (by simp [f1, f2, f8, f15, f16, f17, f19, f21, b_b6]) (len39 _) (by rw [len39]; decide) (ok39 _) (st_39_0_39 _ _)) (by simp [f1, f2, f8, f15, f16, f17, f19, f21, b_b6]) rfl (fun t' ht' => ?_)
    refine gn (fun t H n => Q3_4 a0 a1 caps2 first2 g2 t ∧ t 7 = .sc (.int .i64 v2) ∧ t 8 = .own b6 0 ∧ t 17 = .sc (.int .i64 v2) ∧ H b6 = some (.cells (c39 x5) 39) ∧ b6 < n) (j4 (by simp [ht', f1, f2, f8, f15, f16, f17, f19, f21, b_b6]) ⟨upd_same _ _ _, l_b6⟩) fun t H n q => ?_
    obtain ⟨x7, hx7, h⟩ := bnd h
    obtain ⟨i0x7, i1x7, i2x7, _⟩ := idx_ok hx7
    have ex7_0_39 : partOf T.T 39 (encs c39 a1) (v2.toNat * 6) = some (.agg (c39 x7)) := (part_elem0 (e := c39) (z := 6) (ty := 39) T.t39 (by decide) (by decide) hx7 0 (by decide)).trans (ld_39_0_39 _)
    apply eY 7; simp [q, i0x7, i1x7, pd39, ex7_0_39]
    refine Stk.oz T.t39 (cs := c39 (APat.mk 0 (APos.mk 0 0) ⟨#[]⟩ 0 [])) (by rw [u39]; rfl) rfl (by simp [q, i0x7, i1x7, pd39, ex7_0_39]) rfl (fun t' ht' => ?_)
    refine gn (fun t H n => ∃ b8, Q3_4 a0 a1 caps2 first2 g2 t ∧ t 8 = .own b6 0 ∧ t 9 = .own b8 0 ∧ t 17 = .sc (.int .i64 v2) ∧ t 25 = .agg (c39 x7) ∧ H b6 = some (.cells (c39 x5) 39) ∧ b6 < n ∧ H b8 = some (.cells (c39 (APat.mk 0 (APos.mk 0 0) ⟨#[]⟩ 0 [])) 39) ∧ b8 < n ∧ b6 ≠ b8) ⟨n, j5 (by simp [ht', q, i0x7, i1x7, pd39, ex7_0_39]) ⟨(upd_ne _ _ (Nat.ne_of_lt q.2.2.2.2.2)).trans q.2.2.2.2.1, Nat.lt_succ_of_lt q.2.2.2.2.2, upd_same _ _ _, Nat.lt_succ_self _, Nat.ne_of_lt q.2.2.2.2.2⟩⟩ fun t H n ⟨b8, ⟨f1, f2, f15, f16⟩, f8, f9, f17, f25, b_b6, l_b6, b_b8, l_b8, d_b6_b8⟩ => ?_
    refine Stk.om (mop_store (z := 6) rfl f9 b_b8 f25 (len39 _) (by rw [len39]; decide) (ok39 _) (st_39_0_39 _ _)) (by simp [f1, f2, f8, f9, f15, f16, f17, f25]) rfl (fun t' ht' => ?_)
    refine gn (fun t H n => Q3_4 a0 a1 caps2 first2 g2 t ∧ t 8 = .own b6 0 ∧ t 9 = .own b8 0 ∧ t 17 = .sc (.int .i64 v2) ∧ H b6 = some (.cells (c39 x5) 39) ∧ b6 < n ∧ H b8 = some (.cells (c39 x7) 39) ∧ b8 < n ∧ b6 ≠ b8) (j4 (by simp [ht', f1, f2, f15, f16, f8, f9, f17]) ⟨(upd_ne _ _ d_b6_b8).trans b_b6, l_b6, upd_same _ _ _, l_b8, d_b6_b8⟩) fun t H n q => ?_
    obtain ⟨x9, hx9, h⟩ := bnd h
    apply eY 6; simp [q, ld_39_0_39]
    refine Stk.cv (g := g2) (first := first2) (caps := caps2) (args := first2 ++ [.agg (c39 x5), .agg (c39 x7)] ++ caps2) (args' := first2 ++ [.agg (c39 x5), .agg (c39 x7)] ++ caps2) (v := .sc (.bool x9)) [] (hφ2 _ _ _ hx9) (by simp [q, ld_39_0_39]) rfl (by simp [q, ld_39_0_39]) (by simp [q, ld_39_0_39]) (viewL_mid (x := [.agg (c39 x5), .agg (c39 x7)]) (y := [.agg (c39 x5), .agg (c39 x7)]) fr2.1 fr2.2 (.cons (.free (fr39 _)) (.cons (.free (fr39 _)) (.nil)))) (.inl ⟨rfl, rfl⟩) ?_
    rintro _ rfl
    apply eY 2; simp [q, ld_39_0_39]
    refine cd (!x9) (by simp [q, ld_39_0_39]) (fun hb10 => ?_) (fun hb10 => ?_)
    ·have h := cT hb10 h
     apply eY 5; simp [q, ld_39_0_39]
     obtain rfl := sj h
     exact (hF hr (by simp [q, ld_39_0_39]) rfl).1
    ·have h := cF hb10 h
     apply eY 6; simp [q, ld_39_0_39]
     exact lm (hJ1 _ _ _ _ ⟨(IntKind.i64.wrap (v2 + 1)), h, by simp [q, ld_39_0_39]⟩)
   ·have h := cF hb4 h
    refine Stk.ex rfl ?_
    apply eY 5; simp [q]
    obtain rfl := sj h
    exact (hF hr (by simp [q]) rfl).1
theorem ok_aal_APat (F : Nat) (a0 : (List APat)) (a1 : (List APat)) (φ2 : APat → APat → Option Bool) (g2 : FuncId) (first2 caps2 : List AV) (fr2 : freeL first2 = true ∧ freeL caps2 = true) (hφ2 : ∀ y0 y1 r, φ2 y0 y1 = some r → RunF Tryz.prog T.T g2 (first2 ++ [.agg (c39 y0), .agg (c39 y1)] ++ caps2) (.sc (.bool r))) (r : Bool) (h : aal_APat F a0 a1 φ2 = some r) : RunF Tryz.prog T.T 194 [.ssl (encs c39 a0) a0.length false, .ssl (encs c39 a1) a1.length false, .fn (.func g2) first2 caps2] (.sc (.bool r)) := by
  rw [aal_APat] at h
  refine RunF.z Tryz.func194 rfl rfl rfl rfl rfl (fun C hr => ?_)
  refine gn (fun t H n => t 0 = .ssl (encs c39 a0) a0.length false ∧ t 1 = .ssl (encs c39 a1) a1.length false ∧ t 2 = .fn (.func g2) first2 caps2) ⟨by simp, by simp, by simp⟩ fun t H n q => ?_
  obtain ⟨x1, hx1, h⟩ := bnd h
  apply eY 9; simp [q]
  refine cw (ok_sEqPat F _ _ _ _ _ _ fr2 hφ2 _ hx1) (by simp [q]) rfl rfl (by simp [q]) (.cons (.free (freeL_encs fr39 _)) (.cons (.free (freeL_encs fr39 _)) (.cons (.free (by simp [free, fr2])) (.nil)))) rfl ?_
  rintro _ rfl
  apply eY 3; simp [q]
  obtain rfl := sj h
  exact (hF hr (by simp [q]) rfl).1
theorem okB_ast_samePat (F : Nat) (ρ165 : APat → APat → Option Bool) (hρ165 : ∀ a0 a1 r, ρ165 a0 a1 = some r → RunF Tryz.prog T.T 165 [.agg (c39 a0), .agg (c39 a1)] (.sc (.bool r))) (a0 : APat) (a1 : APat) (r : Bool) (h : ast_samePat_B F ρ165 a0 a1 = some r) : RunF Tryz.prog T.T 165 [.agg (c39 a0), .agg (c39 a1)] (.sc (.bool r)) := by
  rw [ast_samePat_B] at h
  refine RunF.z Tryz.func165 rfl rfl rfl rfl rfl (fun C hr => ?_)
  refine gn (fun t H n => t 0 = .agg (c39 a0) ∧ t 1 = .agg (c39 a1)) ⟨by simp, by simp⟩ fun t H n q => ?_
  apply eY 2; simp [q]
  refine gn (fun t H n => t 0 = .agg (c39 a0) ∧ t 1 = .agg (c39 a1)) (by simp [q]) fun t H n q => ?_
  refine Stk.om (mop_box T.t39 (cs := c39 a0) (by show partOk (t 0) = true; rw [q.1]; rfl) (by show cellsOf (t 0) = _; rw [q.1]; rfl)) (by simp [q]) rfl (fun t' ht' => ?_)
  refine gn (fun t H n => ∃ b1, t 1 = .agg (c39 a1) ∧ t 2 = .own b1 0 ∧ H b1 = some (.cells (c39 a0) 39) ∧ b1 < n) ⟨n, j2 (by simp [ht', q]) ⟨upd_same _ _ _, Nat.lt_succ_self _⟩⟩ fun t H n ⟨b1, q⟩ => ?_
  refine Stk.om (mop_box T.t39 (cs := c39 a1) (by show partOk (t 1) = true; rw [q.1]; rfl) (by show cellsOf (t 1) = _; rw [q.1]; rfl)) (by simp [q]) rfl (fun t' ht' => ?_)
  refine gn (fun t H n => ∃ b2, t 2 = .own b1 0 ∧ t 3 = .own b2 0 ∧ H b1 = some (.cells (c39 a0) 39) ∧ b1 < n ∧ H b2 = some (.cells (c39 a1) 39) ∧ b2 < n ∧ b1 ≠ b2) ⟨n, j2 (by simp [ht', q]) ⟨(upd_ne _ _ (Nat.ne_of_lt q.2.2.2)).trans q.2.2.1, Nat.lt_succ_of_lt q.2.2.2, upd_same _ _ _, Nat.lt_succ_self _, Nat.ne_of_lt q.2.2.2⟩⟩ fun t H n ⟨b2, q⟩ => ?_
  apply eY 10; simp [q, ld_39_0_3]
  refine Stk.gd 6 10 16 (fun z => .sc (.bool (z && (a0.Name.toList == a1.Name.toList)))) (w := (a0.Kind == a1.Kind)) (by simp [q, ld_39_0_3]) (by simp [q, ld_39_0_3, ld_39_3_9]) (by simp [q, ld_39_0_3, ld_39_3_9]) ?_; simp [q, ld_39_0_3]
  apply eY 1; simp [q, ld_39_0_3]
  refine Stk.gd 6 17 23 (fun z => .sc (.bool (z && (a0.Num == a1.Num)))) (w := ((a0.Kind == a1.Kind) && (a0.Name.toList == a1.Name.toList))) (by simp [q, ld_39_0_3]) (by simp [q, ld_39_0_3, ld_39_4_2]) (by simp [q, ld_39_0_3, ld_39_4_2]) ?_; simp [q, ld_39_0_3]
  apply eY 1; simp [q, ld_39_0_3]
  refine gn (fun t H n => t 2 = .own b1 0 ∧ t 3 = .own b2 0 ∧ t 24 = .sc (.bool (((a0.Kind == a1.Kind) && (a0.Name.toList == a1.Name.toList)) && (a0.Num == a1.Num))) ∧ H b1 = some (.cells (c39 a0) 39) ∧ b1 < n ∧ H b2 = some (.cells (c39 a1) 39) ∧ b2 < n ∧ b1 ≠ b2) (by simp [q, ld_39_0_3]) fun t H n q => ?_
  obtain ⟨K1, hK1, h⟩ := jnd h
  refine Stk.jo 6 (fun t H n => ∃ v3 : Bool, K1 v3 = some r ∧ t 30 = .sc (.bool v3)) (fun J1 hJ1 => ?_) ?_
  · rcases Bool.eq_false_or_eq_true (((a0.Kind == a1.Kind) && (a0.Name.toList == a1.Name.toList)) && (a0.Num == a1.Num)) with hb1 | hb1
    · obtain ⟨f2, f3, f24, b_b1, l_b1, b_b2, l_b2, d_b1_b2⟩ := q
      rw [hb1] at f24
      replace h := cT hb1 h
      obtain ⟨x4, hx4, h⟩ := bnd h
      apply eY 4; simp [f2, f3, f24, b_b1, b_b2, ld_39_5_37]
      refine cw (ok_aal_APat F _ _ _ 165 [] [] (by and_intros <;> first | assumption | simp [freeL, free]) (fun y0 y1 r h => hρ165 y0 y1 r h) _ hx4) (by simp [f2, f3, f24, b_b1, b_b2, ld_39_5_37]) rfl rfl (by simp [f2, f3, f24, b_b1, b_b2, ld_39_5_37]) (.cons (.free (freeL_encs fr39 _)) (.cons (.free (freeL_encs fr39 _)) (.cons (.fn .nil (.nil)) (.nil)))) rfl ?_
      rintro _ rfl
      apply eY 2; simp [f2, f3, f24, b_b1, b_b2, ld_39_5_37]
      exact l0 (hJ1 _ _ _ ⟨x4, h, by simp [f2, f3, f24, b_b1, b_b2, ld_39_5_37]⟩)
    · obtain ⟨f2, f3, f24, b_b1, l_b1, b_b2, l_b2, d_b1_b2⟩ := q
      rw [hb1] at f24
      replace h := cF hb1 h
      apply eY 7; simp [f2, f3, f24, b_b1, b_b2]
      exact l0 (hJ1 _ _ _ ⟨false, h, by simp [f2, f3, f24, b_b1, b_b2]⟩)
  clear q h
  rintro t H n ⟨v3, h, q⟩
  subst hK1
  apply eY 3; simp [q]
  obtain rfl := sj h
  exact (hF hr (by simp [q]) rfl).1
theorem okG_ast_samePat : ∀ F : Nat, (∀ (a0 : APat) (a1 : APat) (r : Bool), ast_samePat F a0 a1 = some r → RunF Tryz.prog T.T 165 [.agg (c39 a0), .agg (c39 a1)] (.sc (.bool r)))
  | 0 => (fun a0 a1 r h => by rw [ast_samePat] at h; cases h)
  | F + 1 => (fun a0 a1 r h => okB_ast_samePat F (ast_samePat F) (okG_ast_samePat F) a0 a1 r (by rw [ast_samePat] at h; exact h))
theorem ok_ast_samePat (F : Nat) (a0 : APat) (a1 : APat) (r : Bool) (h : ast_samePat F a0 a1 = some r) : RunF Tryz.prog T.T 165 [.agg (c39 a0), .agg (c39 a1)] (.sc (.bool r)) := (okG_ast_samePat F) a0 a1 r h
@[simp] abbrev Q3_5 (a0 : AExpr) (a1 : AExpr) (b1 : Nat) (b2 : Nat) (t : Nat → AV) (H : Mem) (n : Nat) : Prop := t 2 = .own b1 0 ∧ t 3 = .own b2 0 ∧ H b1 = some (.cells (c33 a0) 33) ∧ b1 < n ∧ H b2 = some (.cells (c33 a1) 33) ∧ b2 < n ∧ b1 ≠ b2
theorem okB_ast_SameExpr (F : Nat) (ρ35 : AExpr → AExpr → Option Bool) (ρ98 : AArm → AArm → Option Bool) (hρ35 : ∀ a0 a1 r, ρ35 a0 a1 = some r → RunF Tryz.prog T.T 35 [.agg (c33 a0), .agg (c33 a1)] (.sc (.bool r))) (hρ98 : ∀ a0 a1 r, ρ98 a0 a1 = some r → RunF Tryz.prog T.T 98 [.agg (c68 a0), .agg (c68 a1)] (.sc (.bool r))) (a0 : AExpr) (a1 : AExpr) (r : Bool) (h : ast_SameExpr_B F ρ35 ρ98 a0 a1 = some r) : RunF Tryz.prog T.T 35 [.agg (c33 a0), .agg (c33 a1)] (.sc (.bool r)) := by
  rw [ast_SameExpr_B] at h
  refine RunF.z Tryz.func35 rfl rfl rfl rfl rfl (fun C hr => ?_)
  refine gn (fun t H n => t 0 = .agg (c33 a0) ∧ t 1 = .agg (c33 a1)) ⟨by simp, by simp⟩ fun t H n q => ?_
  apply eY 2; simp [q]
  refine gn (fun t H n => t 0 = .agg (c33 a0) ∧ t 1 = .agg (c33 a1)) (by simp [q]) fun t H n q => ?_
  refine Stk.om (mop_box T.t33 (cs := c33 a0) (by show partOk (t 0) = true; rw [q.1]; rfl) (by show cellsOf (t 0) = _; rw [q.1]; rfl)) (by simp [q]) rfl (fun t' ht' => ?_)
  refine gn (fun t H n => ∃ b1, t 1 = .agg (c33 a1) ∧ t 2 = .own b1 0 ∧ H b1 = some (.cells (c33 a0) 33) ∧ b1 < n) ⟨n, j2 (by simp [ht', q]) ⟨upd_same _ _ _, Nat.lt_succ_self _⟩⟩ fun t H n ⟨b1, q⟩ => ?_
  refine Stk.om (mop_box T.t33 (cs := c33 a1) (by show partOk (t 1) = true; rw [q.1]; rfl) (by show cellsOf (t 1) = _; rw [q.1]; rfl)) (by simp [q]) rfl (fun t' ht' => ?_)
  refine gn (fun t H n => ∃ b2, t 2 = .own b1 0 ∧ t 3 = .own b2 0 ∧ H b1 = some (.cells (c33 a0) 33) ∧ b1 < n ∧ H b2 = some (.cells (c33 a1) 33) ∧ b2 < n ∧ b1 ≠ b2) ⟨n, j2 (by simp [ht', q]) ⟨(upd_ne _ _ (Nat.ne_of_lt q.2.2.2)).trans q.2.2.1, Nat.lt_succ_of_lt q.2.2.2, upd_same _ _ _, Nat.lt_succ_self _, Nat.ne_of_lt q.2.2.2⟩⟩ fun t H n ⟨b2, q⟩ => ?_
  apply eY 10; simp [q, ld_33_0_3]
  refine Stk.gd 6 10 16 (fun z => .sc (.bool (z && (a0.Num == a1.Num)))) (w := (a0.Kind == a1.Kind)) (by simp [q, ld_33_0_3]) (by simp [q, ld_33_0_3, ld_33_3_2]) (by simp [q, ld_33_0_3, ld_33_3_2]) ?_; simp [q, ld_33_0_3]
  apply eY 1; simp [q, ld_33_0_3]
  refine Stk.gd 6 17 23 (fun z => .sc (.bool (z && (a0.Name.toList == a1.Name.toList)))) (w := ((a0.Kind == a1.Kind) && (a0.Num == a1.Num))) (by simp [q, ld_33_0_3]) (by simp [q, ld_33_0_3, ld_33_5_9]) (by simp [q, ld_33_0_3, ld_33_5_9]) ?_; simp [q, ld_33_0_3]
  apply eY 1; simp [q, ld_33_0_3]
  refine gn (fun t H n => Q3_5 a0 a1 b1 b2 t H n ∧ t 24 = .sc (.bool (((a0.Kind == a1.Kind) && (a0.Num == a1.Num)) && (a0.Name.toList == a1.Name.toList)))) (by simp [q, ld_33_0_3]) fun t H n q => ?_
  obtain ⟨K1, hK1, h⟩ := jnd h
  refine Stk.jo 6 (fun t H n => ∃ v3 : Bool, K1 v3 = some r ∧ t 2 = .own b1 0 ∧ t 3 = .own b2 0 ∧ t 30 = .sc (.bool v3) ∧ H b1 = some (.cells (c33 a0) 33) ∧ b1 < n ∧ H b2 = some (.cells (c33 a1) 33) ∧ b2 < n ∧ b1 ≠ b2) (fun J1 hJ1 => ?_) ?_
  · rcases Bool.eq_false_or_eq_true (((a0.Kind == a1.Kind) && (a0.Num == a1.Num)) && (a0.Name.toList == a1.Name.toList)) with hb1 | hb1
    · obtain ⟨⟨f2, f3, b_b1, l_b1, b_b2, l_b2, d_b1_b2⟩, f24⟩ := q
      rw [hb1] at f24
      replace h := cT hb1 h
      obtain ⟨x4, hx4, h⟩ := bnd h
      apply eY 4; simp [f2, f3, f24, b_b1, b_b2, ld_33_4_29]
      refine cw (ok_sEqB F _ _ _ hx4) (by simp [f2, f3, f24, b_b1, b_b2, ld_33_4_29]) rfl rfl (by simp [f2, f3, f24, b_b1, b_b2, ld_33_4_29]) (.cons (.free (freeL_encs fr5 _)) (.cons (.free (freeL_encs fr5 _)) (.nil))) rfl ?_
      rintro _ rfl
      apply eY 2; simp [f2, f3, f24, b_b1, b_b2, ld_33_4_29]
      exact l0 (hJ1 _ _ _ ⟨x4, h, by and_intros <;> first | assumption | simp [f2, f3, f24, b_b1, b_b2, ld_33_4_29]⟩)
    · obtain ⟨⟨f2, f3, b_b1, l_b1, b_b2, l_b2, d_b1_b2⟩, f24⟩ := q
      rw [hb1] at f24
      replace h := cF hb1 h
      apply eY 7; simp [f2, f3, f24, b_b1, b_b2]
      exact l0 (hJ1 _ _ _ ⟨false, h, by and_intros <;> first | assumption | simp [f2, f3, f24, b_b1, b_b2]⟩)
  clear q h
  rintro t H n ⟨v3, h, q⟩
  subst hK1
  apply eY 1; simp [q]
  refine gn (fun t H n => Q3_5 a0 a1 b1 b2 t H n ∧ t 31 = .sc (.bool v3)) (by simp [q]) fun t H n q => ?_
  obtain ⟨K2, hK2, h⟩ := jnd h
  refine Stk.jo 6 (fun t H n => ∃ v5 : Bool, K2 v5 = some r ∧ t 2 = .own b1 0 ∧ t 3 = .own b2 0 ∧ t 37 = .sc (.bool v5) ∧ H b1 = some (.cells (c33 a0) 33) ∧ b1 < n ∧ H b2 = some (.cells (c33 a1) 33) ∧ b2 < n ∧ b1 ≠ b2) (fun J2 hJ2 => ?_) ?_
  · rcases Bool.eq_false_or_eq_true v3 with hb2 | hb2
    · obtain ⟨⟨f2, f3, b_b1, l_b1, b_b2, l_b2, d_b1_b2⟩, f31⟩ := q
      rw [hb2] at f31
      replace h := cT hb2 h
      obtain ⟨x6, hx6, h⟩ := bnd h
      apply eY 4; simp [f2, f3, f31, b_b1, b_b2, ld_33_6_30]
      refine cw (ok_aal_AExpr F _ _ _ 35 [] [] (by and_intros <;> first | assumption | simp [freeL, free]) (fun y0 y1 r h => hρ35 y0 y1 r h) _ hx6) (by simp [f2, f3, f31, b_b1, b_b2, ld_33_6_30]) rfl rfl (by simp [f2, f3, f31, b_b1, b_b2, ld_33_6_30]) (.cons (.free (freeL_encs fr33 _)) (.cons (.free (freeL_encs fr33 _)) (.cons (.fn .nil (.nil)) (.nil)))) rfl ?_
      rintro _ rfl
      apply eY 2; simp [f2, f3, f31, b_b1, b_b2, ld_33_6_30]
      exact l0 (hJ2 _ _ _ ⟨x6, h, by and_intros <;> first | assumption | simp [f2, f3, f31, b_b1, b_b2, ld_33_6_30]⟩)
    · obtain ⟨⟨f2, f3, b_b1, l_b1, b_b2, l_b2, d_b1_b2⟩, f31⟩ := q
      rw [hb2] at f31
      replace h := cF hb2 h
      apply eY 7; simp [f2, f3, f31, b_b1, b_b2]
      exact l0 (hJ2 _ _ _ ⟨false, h, by and_intros <;> first | assumption | simp [f2, f3, f31, b_b1, b_b2]⟩)
  clear q h
  rintro t H n ⟨v5, h, q⟩
  subst hK2
  apply eY 1; simp [q]
  refine gn (fun t H n => Q3_5 a0 a1 b1 b2 t H n ∧ t 38 = .sc (.bool v5)) (by simp [q]) fun t H n q => ?_
  obtain ⟨K3, hK3, h⟩ := jnd h
  refine Stk.jo 6 (fun t H n => ∃ v7 : Bool, K3 v7 = some r ∧ t 44 = .sc (.bool v7)) (fun J3 hJ3 => ?_) ?_
  · rcases Bool.eq_false_or_eq_true v5 with hb3 | hb3
    · obtain ⟨⟨f2, f3, b_b1, l_b1, b_b2, l_b2, d_b1_b2⟩, f38⟩ := q
      rw [hb3] at f38
      replace h := cT hb3 h
      obtain ⟨x8, hx8, h⟩ := bnd h
      apply eY 4; simp [f2, f3, f38, b_b1, b_b2, ld_33_7_31]
      refine cw (ok_aal_AArm F _ _ _ 98 [] [] (by and_intros <;> first | assumption | simp [freeL, free]) (fun y0 y1 r h => hρ98 y0 y1 r h) _ hx8) (by simp [f2, f3, f38, b_b1, b_b2, ld_33_7_31]) rfl rfl (by simp [f2, f3, f38, b_b1, b_b2, ld_33_7_31]) (.cons (.free (freeL_encs fr68 _)) (.cons (.free (freeL_encs fr68 _)) (.cons (.fn .nil (.nil)) (.nil)))) rfl ?_
      rintro _ rfl
      apply eY 2; simp [f2, f3, f38, b_b1, b_b2, ld_33_7_31]
      exact l0 (hJ3 _ _ _ ⟨x8, h, by simp [f2, f3, f38, b_b1, b_b2, ld_33_7_31]⟩)
    · obtain ⟨⟨f2, f3, b_b1, l_b1, b_b2, l_b2, d_b1_b2⟩, f38⟩ := q
      rw [hb3] at f38
      replace h := cF hb3 h
      apply eY 7; simp [f2, f3, f38, b_b1, b_b2]
      exact l0 (hJ3 _ _ _ ⟨false, h, by simp [f2, f3, f38, b_b1, b_b2]⟩)
  clear q h
  rintro t H n ⟨v7, h, q⟩
  subst hK3
  apply eY 3; simp [q]
  obtain rfl := sj h
  exact (hF hr (by simp [q]) rfl).1
theorem okB_ast_sameArm (F : Nat) (ρ35 : AExpr → AExpr → Option Bool) (ρ98 : AArm → AArm → Option Bool) (hρ35 : ∀ a0 a1 r, ρ35 a0 a1 = some r → RunF Tryz.prog T.T 35 [.agg (c33 a0), .agg (c33 a1)] (.sc (.bool r))) (hρ98 : ∀ a0 a1 r, ρ98 a0 a1 = some r → RunF Tryz.prog T.T 98 [.agg (c68 a0), .agg (c68 a1)] (.sc (.bool r))) (a0 : AArm) (a1 : AArm) (r : Bool) (h : ast_sameArm_B F ρ35 ρ98 a0 a1 = some r) : RunF Tryz.prog T.T 98 [.agg (c68 a0), .agg (c68 a1)] (.sc (.bool r)) := by
  rw [ast_sameArm_B] at h
  refine RunF.z Tryz.func98 rfl rfl rfl rfl rfl (fun C hr => ?_)
  refine gn (fun t H n => t 0 = .agg (c68 a0) ∧ t 1 = .agg (c68 a1)) ⟨by simp, by simp⟩ fun t H n q => ?_
  apply eY 2; simp [q]
  refine gn (fun t H n => t 0 = .agg (c68 a0) ∧ t 1 = .agg (c68 a1)) (by simp [q]) fun t H n q => ?_
  refine Stk.om (mop_box T.t68 (cs := c68 a0) (by show partOk (t 0) = true; rw [q.1]; rfl) (by show cellsOf (t 0) = _; rw [q.1]; rfl)) (by simp [q]) rfl (fun t' ht' => ?_)
  refine gn (fun t H n => ∃ b1, t 1 = .agg (c68 a1) ∧ t 2 = .own b1 0 ∧ H b1 = some (.cells (c68 a0) 68) ∧ b1 < n) ⟨n, j2 (by simp [ht', q]) ⟨upd_same _ _ _, Nat.lt_succ_self _⟩⟩ fun t H n ⟨b1, q⟩ => ?_
  refine Stk.om (mop_box T.t68 (cs := c68 a1) (by show partOk (t 1) = true; rw [q.1]; rfl) (by show cellsOf (t 1) = _; rw [q.1]; rfl)) (by simp [q]) rfl (fun t' ht' => ?_)
  refine gn (fun t H n => ∃ b2, t 2 = .own b1 0 ∧ t 3 = .own b2 0 ∧ H b1 = some (.cells (c68 a0) 68) ∧ b1 < n ∧ H b2 = some (.cells (c68 a1) 68) ∧ b2 < n ∧ b1 ≠ b2) ⟨n, j2 (by simp [ht', q]) ⟨(upd_ne _ _ (Nat.ne_of_lt q.2.2.2)).trans q.2.2.1, Nat.lt_succ_of_lt q.2.2.2, upd_same _ _ _, Nat.lt_succ_self _, Nat.ne_of_lt q.2.2.2⟩⟩ fun t H n ⟨b2, q⟩ => ?_
  obtain ⟨x3, hx3, h⟩ := bnd h
  apply eY 8; simp [q, ld_68_0_39]
  refine cw (ok_ast_samePat F _ _ _ hx3) (by simp [q, ld_68_0_39]) rfl rfl (by simp [q, ld_68_0_39]) (.cons (.free (fr39 _)) (.cons (.free (fr39 _)) (.nil))) rfl ?_
  rintro _ rfl
  apply eY 1; simp [q, ld_68_0_39]
  refine gn (fun t H n => t 2 = .own b1 0 ∧ t 3 = .own b2 0 ∧ t 10 = .sc (.bool x3) ∧ H b1 = some (.cells (c68 a0) 68) ∧ b1 < n ∧ H b2 = some (.cells (c68 a1) 68) ∧ b2 < n ∧ b1 ≠ b2) (by simp [q, ld_68_0_39]) fun t H n q => ?_
  obtain ⟨K1, hK1, h⟩ := jnd h
  refine Stk.jo 6 (fun t H n => ∃ v4 : Bool, K1 v4 = some r ∧ t 16 = .sc (.bool v4)) (fun J1 hJ1 => ?_) ?_
  · rcases Bool.eq_false_or_eq_true x3 with hb1 | hb1
    · obtain ⟨f2, f3, f10, b_b1, l_b1, b_b2, l_b2, d_b1_b2⟩ := q
      rw [hb1] at f10
      replace h := cT hb1 h
      obtain ⟨x5, hx5, h⟩ := bnd h
      apply eY 4; simp [f2, f3, f10, b_b1, b_b2, ld_68_6_33]
      refine cw (hρ35 _ _ _ hx5) (by simp [f2, f3, f10, b_b1, b_b2, ld_68_6_33]) rfl rfl (by simp [f2, f3, f10, b_b1, b_b2, ld_68_6_33]) (.cons (.free (fr33 _)) (.cons (.free (fr33 _)) (.nil))) rfl ?_
      rintro _ rfl
      apply eY 2; simp [f2, f3, f10, b_b1, b_b2, ld_68_6_33]
      exact l0 (hJ1 _ _ _ ⟨x5, h, by simp [f2, f3, f10, b_b1, b_b2, ld_68_6_33]⟩)
    · obtain ⟨f2, f3, f10, b_b1, l_b1, b_b2, l_b2, d_b1_b2⟩ := q
      rw [hb1] at f10
      replace h := cF hb1 h
      apply eY 7; simp [f2, f3, f10, b_b1, b_b2]
      exact l0 (hJ1 _ _ _ ⟨false, h, by simp [f2, f3, f10, b_b1, b_b2]⟩)
  clear q h
  rintro t H n ⟨v4, h, q⟩
  subst hK1
  apply eY 3; simp [q]
  obtain rfl := sj h
  exact (hF hr (by simp [q]) rfl).1
theorem okG_ast_SameExpr : ∀ F : Nat, (∀ (a0 : AExpr) (a1 : AExpr) (r : Bool), ast_SameExpr F a0 a1 = some r → RunF Tryz.prog T.T 35 [.agg (c33 a0), .agg (c33 a1)] (.sc (.bool r))) ∧ (∀ (a0 : AArm) (a1 : AArm) (r : Bool), ast_sameArm F a0 a1 = some r → RunF Tryz.prog T.T 98 [.agg (c68 a0), .agg (c68 a1)] (.sc (.bool r)))
  | 0 => ⟨(fun a0 a1 r h => by rw [ast_SameExpr] at h; cases h), (fun a0 a1 r h => by rw [ast_sameArm] at h; cases h)⟩
  | F + 1 => ⟨(fun a0 a1 r h => okB_ast_SameExpr F (ast_SameExpr F) (ast_sameArm F) (okG_ast_SameExpr F).1 (okG_ast_SameExpr F).2 a0 a1 r (by rw [ast_SameExpr] at h; exact h)), (fun a0 a1 r h => okB_ast_sameArm F (ast_SameExpr F) (ast_sameArm F) (okG_ast_SameExpr F).1 (okG_ast_SameExpr F).2 a0 a1 r (by rw [ast_sameArm] at h; exact h))⟩
theorem ok_ast_SameExpr (F : Nat) (a0 : AExpr) (a1 : AExpr) (r : Bool) (h : ast_SameExpr F a0 a1 = some r) : RunF Tryz.prog T.T 35 [.agg (c33 a0), .agg (c33 a1)] (.sc (.bool r)) := (okG_ast_SameExpr F).1 a0 a1 r h
@[simp] abbrev Q3_6 (a0 : (List AData)) (a1 : (List AData)) (caps2 : List AV) (first2 : List AV) (g2 : FuncId) (t : Nat → AV) : Prop := t 1 = .ssl (encs c72 a1) a1.length false ∧ t 2 = .fn (.func g2) first2 caps2 ∧ t 15 = .ssl (encs c72 a0) a0.length false ∧ t 16 = .sc (.int .i64 (a0.length : Int))
theorem ok_sEqData (F : Nat) (a0 : (List AData)) (a1 : (List AData)) (φ2 : AData → AData → Option Bool) (g2 : FuncId) (first2 caps2 : List AV) (fr2 : freeL first2 = true ∧ freeL caps2 = true) (hφ2 : ∀ y0 y1 r, φ2 y0 y1 = some r → RunF Tryz.prog T.T g2 (first2 ++ [.agg (c72 y0), .agg (c72 y1)] ++ caps2) (.sc (.bool r))) (r : Bool) (h : sEqData F a0 a1 φ2 = some r) : RunF Tryz.prog T.T 156 [.ssl (encs c72 a0) a0.length false, .ssl (encs c72 a1) a1.length false, .fn (.func g2) first2 caps2] (.sc (.bool r)) := by
  rw [sEqData] at h
  refine RunF.z Tryz.func156 rfl rfl rfl rfl rfl (fun C hr => ?_)
  refine gn (fun t H n => t 0 = .ssl (encs c72 a0) a0.length false ∧ t 1 = .ssl (encs c72 a1) a1.length false ∧ t 2 = .fn (.func g2) first2 caps2) ⟨by simp, by simp, by simp⟩ fun t H n q => ?_
  apply eY 13; simp [q]
  refine cd ((a0.length : Int) != (a1.length : Int)) (by simp [q]) (fun hb1 => ?_) (fun hb1 => ?_)
  ·have h := cT hb1 h
   apply eY 5; simp [q]
   obtain rfl := sj h
   exact (hF hr (by simp [q]) rfl).1
  ·have h := cF hb1 h
   apply eY 9; simp [q]
   refine gn (fun t H n => Q3_6 a0 a1 caps2 first2 g2 t ∧ t 17 = .sc (.int .i64 0)) (by simp [q]) fun t H n q => ?_
   refine Stk.lo (fun μ t H n => ∃ v2 : Int, sEqData_L0 F a0 a1 φ2 μ v2 = some r ∧ t 1 = .ssl (encs c72 a1) a1.length false ∧ t 2 = .fn (.func g2) first2 caps2 ∧ t 15 = .ssl (encs c72 a0) a0.length false ∧ t 16 = .sc (.int .i64 (a0.length : Int)) ∧ t 17 = .sc (.int .i64 v2)) F ⟨0, h, q.1.1, q.1.2.1, q.1.2.2.1, q.1.2.2.2, q.2⟩ ?_
   clear q h
   rintro J1 hJ1 μ t H n ⟨v2, h, q⟩
   cases μ with
   | zero => exact absurd h (by simp [sEqData_L0])
   | succ μ =>
   rw [sEqData_L0] at h
   apply eY 5; simp [q]
   refine cd (decide (v2 < (a0.length : Int))) (by simp [q]) (fun hb4 => ?_) (fun hb4 => ?_)
   ·have h := cT hb4 h
    obtain ⟨x5, hx5, h⟩ := bnd h
    obtain ⟨i0x5, i1x5, i2x5, _⟩ := idx_ok hx5
    have ex5_0_72 : partOf T.T 72 (encs c72 a0) (v2.toNat * 4) = some (.agg (c72 x5)) := (part_elem0 (e := c72) (z := 4) (ty := 72) T.t72 (by decide) (by decide) hx5 0 (by decide)).trans (ld_72_0_72 _)
    apply eY 8; simp [q, i0x5, i1x5, pd72, ex5_0_72]
    refine Stk.oz T.t72 (cs := c72 (AData.mk (APos.mk 0 0) ⟨#[]⟩ [])) (by rfl) rfl (by simp [q, i0x5, i1x5, pd72, ex5_0_72]) rfl (fun t' ht' => ?_)
    refine gn (fun t H n => ∃ b6, Q3_6 a0 a1 caps2 first2 g2 t ∧ t 8 = .own b6 0 ∧ t 17 = .sc (.int .i64 v2) ∧ t 19 = .sc (.int .i64 v2) ∧ t 21 = .agg (c72 x5) ∧ H b6 = some (.cells (c72 (AData.mk (APos.mk 0 0) ⟨#[]⟩ [])) 72) ∧ b6 < n) ⟨n, j5 (by simp [ht', q, i0x5, i1x5, pd72, ex5_0_72]) ⟨upd_same _ _ _, Nat.lt_succ_self _⟩⟩ fun t H n ⟨b6, ⟨f1, f2, f15, f16⟩, f8, f17, f19, f21, b_b6, l_b6⟩ => ?_
    apply eY 1; simp [f1, f2, f8, f15, f16, f17, f19, f21, b_b6]
    refine Stk.om (mop_store (z := 4) (o := 0) (v := .agg (c72 x5)) rfl (by simp [f1, f2, f8, f15, f16, f17, f19, f21, b_b6]) b_b6 (by simp [f1, f2, f8, f15, f16, f17, f19, f21, b_b6]) (len72 _) (by rw [len72]; decide) (ok72 _) (st_72_0_72 _ _)) (by simp [f1, f2, f8, f15, f16, f17, f19, f21, b_b6]) rfl (fun t' ht' => ?_)
    refine gn (fun t H n => Q3_6 a0 a1 caps2 first2 g2 t ∧ t 7 = .sc (.int .i64 v2) ∧ t 8 = .own b6 0 ∧ t 17 = .sc (.int .i64 v2) ∧ H b6 = some (.cells (c72 x5) 72) ∧ b6 < n) (j4 (by simp [ht', f1, f2, f8, f15, f16, f17, f19, f21, b_b6]) ⟨upd_same _ _ _, l_b6⟩) fun t H n q => ?_
    obtain ⟨x7, hx7, h⟩ := bnd h
    obtain ⟨i0x7, i1x7, i2x7, _⟩ := idx_ok hx7
    have ex7_0_72 : partOf T.T 72 (encs c72 a1) (v2.toNat * 4) = some (.agg (c72 x7)) := (part_elem0 (e := c72) (z := 4) (ty := 72) T.t72 (by decide) (by decide) hx7 0 (by decide)).trans (ld_72_0_72 _)
    apply eY 7; simp [q, i0x7, i1x7, pd72, ex7_0_72]
    refine Stk.oz T.t72 (cs := c72 (AData.mk (APos.mk 0 0) ⟨#[]⟩ [])) (by rfl) rfl (by simp [q, i0x7, i1x7, pd72, ex7_0_72]) rfl (fun t' ht' => ?_)
    refine gn (fun t H n => ∃ b8, Q3_6 a0 a1 caps2 first2 g2 t ∧ t 8 = .own b6 0 ∧ t 9 = .own b8 0 ∧ t 17 = .sc (.int .i64 v2) ∧ t 25 = .agg (c72 x7) ∧ H b6 = some (.cells (c72 x5) 72) ∧ b6 < n ∧ H b8 = some (.cells (c72 (AData.mk (APos.mk 0 0) ⟨#[]⟩ [])) 72) ∧ b8 < n ∧ b6 ≠ b8) ⟨n, j5 (by simp [ht', q, i0x7, i1x7, pd72, ex7_0_72]) ⟨(upd_ne _ _ (Nat.ne_of_lt q.2.2.2.2.2)).trans q.2.2.2.2.1, Nat.lt_succ_of_lt q.2.2.2.2.2, upd_same _ _ _, Nat.lt_succ_self _, Nat.ne_of_lt q.2.2.2.2.2⟩⟩ fun t H n ⟨b8, ⟨f1, f2, f15, f16⟩, f8, f9, f17, f25, b_b6, l_b6, b_b8, l_b8, d_b6_b8⟩ => ?_
    refine Stk.om (mop_store (z := 4) rfl f9 b_b8 f25 (len72 _) (by rw [len72]; decide) (ok72 _) (st_72_0_72 _ _)) (by simp [f1, f2, f8, f9, f15, f16, f17, f25]) rfl (fun t' ht' => ?_)
    refine gn (fun t H n => Q3_6 a0 a1 caps2 first2 g2 t ∧ t 8 = .own b6 0 ∧ t 9 = .own b8 0 ∧ t 17 = .sc (.int .i64 v2) ∧ H b6 = some (.cells (c72 x5) 72) ∧ b6 < n ∧ H b8 = some (.cells (c72 x7) 72) ∧ b8 < n ∧ b6 ≠ b8) (j4 (by simp [ht', f1, f2, f15, f16, f8, f9, f17]) ⟨(upd_ne _ _ d_b6_b8).trans b_b6, l_b6, upd_same _ _ _, l_b8, d_b6_b8⟩) fun t H n q => ?_
    obtain ⟨x9, hx9, h⟩ := bnd h
    apply eY 6; simp [q, ld_72_0_72]
    refine Stk.cv (g := g2) (first := first2) (caps := caps2) (args := first2 ++ [.agg (c72 x5), .agg (c72 x7)] ++ caps2) (args' := first2 ++ [.agg (c72 x5), .agg (c72 x7)] ++ caps2) (v := .sc (.bool x9)) [] (hφ2 _ _ _ hx9) (by simp [q, ld_72_0_72]) rfl (by simp [q, ld_72_0_72]) (by simp [q, ld_72_0_72]) (viewL_mid (x := [.agg (c72 x5), .agg (c72 x7)]) (y := [.agg (c72 x5), .agg (c72 x7)]) fr2.1 fr2.2 (.cons (.free (fr72 _)) (.cons (.free (fr72 _)) (.nil)))) (.inl ⟨rfl, rfl⟩) ?_
    rintro _ rfl
    apply eY 2; simp [q, ld_72_0_72]
    refine cd (!x9) (by simp [q, ld_72_0_72]) (fun hb10 => ?_) (fun hb10 => ?_)
    ·have h := cT hb10 h
     apply eY 5; simp [q, ld_72_0_72]
     obtain rfl := sj h
     exact (hF hr (by simp [q, ld_72_0_72]) rfl).1
    ·have h := cF hb10 h
     apply eY 6; simp [q, ld_72_0_72]
     exact lm (hJ1 _ _ _ _ ⟨(IntKind.i64.wrap (v2 + 1)), h, by simp [q, ld_72_0_72]⟩)
   ·have h := cF hb4 h
    refine Stk.ex rfl ?_
    apply eY 5; simp [q]
    obtain rfl := sj h
    exact (hF hr (by simp [q]) rfl).1
attribute [-simp] Go.Proofs.YtappiofmkoelnaaGreatDoorW.Ah.splice
open Go.Proofs.YtappiofmkoelnaaGreatDoorW.Ah Go.Proofs.YtappiofmkoelnaaGreatDoor
set_option linter.unusedVariables false
set_option linter.unusedSimpArgs false
set_option maxRecDepth 8000
attribute [local simp] T.t3 T.t4 T.t9 T.t22 T.t23 T.t24 T.t26 T.t33 T.t34 T.t70 T.t72 T.t75 T.t77 T.t81 T.t83 T.t92 List.range List.range.loop
attribute [-simp] appendAV fillAV
theorem ok_aal_AData (F : Nat) (a0 : (List AData)) (a1 : (List AData)) (φ2 : AData → AData → Option Bool) (g2 : FuncId) (first2 caps2 : List AV) (fr2 : freeL first2 = true ∧ freeL caps2 = true) (hφ2 : ∀ y0 y1 r, φ2 y0 y1 = some r → RunF Tryz.prog T.T g2 (first2 ++ [.agg (c72 y0), .agg (c72 y1)] ++ caps2) (.sc (.bool r))) (r : Bool) (h : aal_AData F a0 a1 φ2 = some r) : RunF Tryz.prog T.T 89 [.ssl (encs c72 a0) a0.length false, .ssl (encs c72 a1) a1.length false, .fn (.func g2) first2 caps2] (.sc (.bool r)) := by
  rw [aal_AData] at h
  refine RunF.z Tryz.func89 rfl rfl rfl rfl rfl (fun C hr => ?_)
  refine gn (fun t H n => t 0 = .ssl (encs c72 a0) a0.length false ∧ t 1 = .ssl (encs c72 a1) a1.length false ∧ t 2 = .fn (.func g2) first2 caps2) ⟨by simp, by simp, by simp⟩ fun t H n q => ?_
  obtain ⟨x1, hx1, h⟩ := bnd h
  apply eY 9; simp [q]
  refine cw (ok_sEqData F _ _ _ _ _ _ fr2 hφ2 _ hx1) (by simp [q]) rfl rfl (by simp [q]) (.cons (.free (freeL_encs fr72 _)) (.cons (.free (freeL_encs fr72 _)) (.cons (.free (by simp [free, fr2])) (.nil)))) rfl ?_
  rintro _ rfl
  apply eY 3; simp [q]
  obtain rfl := sj h
  exact (hF hr (by simp [q]) rfl).1
@[simp] abbrev Q4_1 (a0 : (List ACon)) (a1 : (List ACon)) (caps2 : List AV) (first2 : List AV) (g2 : FuncId) (t : Nat → AV) : Prop := t 1 = .ssl (encs c92 a1) a1.length false ∧ t 2 = .fn (.func g2) first2 caps2 ∧ t 15 = .ssl (encs c92 a0) a0.length false ∧ t 16 = .sc (.int .i64 (a0.length : Int))
theorem ok_sEqCon (F : Nat) (a0 : (List ACon)) (a1 : (List ACon)) (φ2 : ACon → ACon → Option Bool) (g2 : FuncId) (first2 caps2 : List AV) (fr2 : freeL first2 = true ∧ freeL caps2 = true) (hφ2 : ∀ y0 y1 r, φ2 y0 y1 = some r → RunF Tryz.prog T.T g2 (first2 ++ [.agg (c92 y0), .agg (c92 y1)] ++ caps2) (.sc (.bool r))) (r : Bool) (h : sEqCon F a0 a1 φ2 = some r) : RunF Tryz.prog T.T 192 [.ssl (encs c92 a0) a0.length false, .ssl (encs c92 a1) a1.length false, .fn (.func g2) first2 caps2] (.sc (.bool r)) := by
  rw [sEqCon] at h
  refine RunF.z Tryz.func192 rfl rfl rfl rfl rfl (fun C hr => ?_)
  refine gn (fun t H n => t 0 = .ssl (encs c92 a0) a0.length false ∧ t 1 = .ssl (encs c92 a1) a1.length false ∧ t 2 = .fn (.func g2) first2 caps2) ⟨by simp, by simp, by simp⟩ fun t H n q => ?_
  apply eY 13; simp [q]
  refine cd ((a0.length : Int) != (a1.length : Int)) (by simp [q]) (fun hb1 => ?_) (fun hb1 => ?_)
  ·have h := cT hb1 h
   apply eY 5; simp [q]
   obtain rfl := sj h
   exact (hF hr (by simp [q]) rfl).1
  ·have h := cF hb1 h
   apply eY 9; simp [q]
   refine gn (fun t H n => Q4_1 a0 a1 caps2 first2 g2 t ∧ t 17 = .sc (.int .i64 0)) (by simp [q]) fun t H n q => ?_
   refine Stk.lo (fun μ t H n => ∃ v2 : Int, sEqCon_L0 F a0 a1 φ2 μ v2 = some r ∧ t 1 = .ssl (encs c92 a1) a1.length false ∧ t 2 = .fn (.func g2) first2 caps2 ∧ t 15 = .ssl (encs c92 a0) a0.length false ∧ t 16 = .sc (.int .i64 (a0.length : Int)) ∧ t 17 = .sc (.int .i64 v2)) F ⟨0, h, q.1.1, q.1.2.1, q.1.2.2.1, q.1.2.2.2, q.2⟩ ?_
   clear q h
   rintro J1 hJ1 μ t H n ⟨v2, h, q⟩
   cases μ with
   | zero => exact absurd h (by simp [sEqCon_L0])
   | succ μ =>
   rw [sEqCon_L0] at h
   apply eY 5; simp [q]
   refine cd (decide (v2 < (a0.length : Int))) (by simp [q]) (fun hb4 => ?_) (fun hb4 => ?_)
   ·have h := cT hb4 h
    obtain ⟨x5, hx5, h⟩ := bnd h
    obtain ⟨i0x5, i1x5, i2x5, _⟩ := idx_ok hx5
    have ex5_0_92 : partOf T.T 92 (encs c92 a0) (v2.toNat * 2) = some (.agg (c92 x5)) := (part_elem0 (e := c92) (z := 2) (ty := 92) T.t92 (by decide) (by decide) hx5 0 (by decide)).trans (ld_92_0_92 _)
    apply eY 8; simp [q, i0x5, i1x5, pd92, ex5_0_92]
    refine Stk.oz T.t92 (cs := c92 (ACon.mk ⟨#[]⟩ [])) (by rfl) rfl (by simp [q, i0x5, i1x5, pd92, ex5_0_92]) rfl (fun t' ht' => ?_)
    refine gn (fun t H n => ∃ b6, Q4_1 a0 a1 caps2 first2 g2 t ∧ t 8 = .own b6 0 ∧ t 17 = .sc (.int .i64 v2) ∧ t 19 = .sc (.int .i64 v2) ∧ t 21 = .agg (c92 x5) ∧ H b6 = some (.cells (c92 (ACon.mk ⟨#[]⟩ [])) 92) ∧ b6 < n) ⟨n, j5 (by simp [ht', q, i0x5, i1x5, pd92, ex5_0_92]) ⟨upd_same _ _ _, Nat.lt_succ_self _⟩⟩ fun t H n ⟨b6, ⟨f1, f2, f15, f16⟩, f8, f17, f19, f21, b_b6, l_b6⟩ => ?_
    apply eY 1; simp [f1, f2, f8, f15, f16, f17, f19, f21, b_b6]
    refine Stk.om (mop_store (z := 2) (o := 0) (v := .agg (c92 x5)) rfl (by simp [f1, f2, f8, f15, f16, f17, f19, f21, b_b6]) b_b6 (by simp [f1, f2, f8, f15, f16, f17, f19, f21, b_b6]) (len92 _) (by rw [len92]; decide) (ok92 _) (st_92_0_92 _ _)) (by simp [f1, f2, f8, f15, f16, f17, f19, f21, b_b6]) rfl (fun t' ht' => ?_)
    refine gn (fun t H n => Q4_1 a0 a1 caps2 first2 g2 t ∧ t 7 = .sc (.int .i64 v2) ∧ t 8 = .own b6 0 ∧ t 17 = .sc (.int .i64 v2) ∧ H b6 = some (.cells (c92 x5) 92) ∧ b6 < n) (j4 (by simp [ht', f1, f2, f8, f15, f16, f17, f19, f21, b_b6]) ⟨upd_same _ _ _, l_b6⟩) fun t H n q => ?_
    obtain ⟨x7, hx7, h⟩ := bnd h
    obtain ⟨i0x7, i1x7, i2x7, _⟩ := idx_ok hx7
    have ex7_0_92 : partOf T.T 92 (encs c92 a1) (v2.toNat * 2) = some (.agg (c92 x7)) := (part_elem0 (e := c92) (z := 2) (ty := 92) T.t92 (by decide) (by decide) hx7 0 (by decide)).trans (ld_92_0_92 _)
    apply eY 7; simp [q, i0x7, i1x7, pd92, ex7_0_92]
    refine Stk.oz T.t92 (cs := c92 (ACon.mk ⟨#[]⟩ [])) (by rfl) rfl (by simp [q, i0x7, i1x7, pd92, ex7_0_92]) rfl (fun t' ht' => ?_)
    refine gn (fun t H n => ∃ b8, Q4_1 a0 a1 caps2 first2 g2 t ∧ t 8 = .own b6 0 ∧ t 9 = .own b8 0 ∧ t 17 = .sc (.int .i64 v2) ∧ t 25 = .agg (c92 x7) ∧ H b6 = some (.cells (c92 x5) 92) ∧ b6 < n ∧ H b8 = some (.cells (c92 (ACon.mk ⟨#[]⟩ [])) 92) ∧ b8 < n ∧ b6 ≠ b8) ⟨n, j5 (by simp [ht', q, i0x7, i1x7, pd92, ex7_0_92]) ⟨(upd_ne _ _ (Nat.ne_of_lt q.2.2.2.2.2)).trans q.2.2.2.2.1, Nat.lt_succ_of_lt q.2.2.2.2.2, upd_same _ _ _, Nat.lt_succ_self _, Nat.ne_of_lt q.2.2.2.2.2⟩⟩ fun t H n ⟨b8, ⟨f1, f2, f15, f16⟩, f8, f9, f17, f25, b_b6, l_b6, b_b8, l_b8, d_b6_b8⟩ => ?_
    refine Stk.om (mop_store (z := 2) rfl f9 b_b8 f25 (len92 _) (by rw [len92]; decide) (ok92 _) (st_92_0_92 _ _)) (by simp [f1, f2, f8, f9, f15, f16, f17, f25]) rfl (fun t' ht' => ?_)
    refine gn (fun t H n => Q4_1 a0 a1 caps2 first2 g2 t ∧ t 8 = .own b6 0 ∧ t 9 = .own b8 0 ∧ t 17 = .sc (.int .i64 v2) ∧ H b6 = some (.cells (c92 x5) 92) ∧ b6 < n ∧ H b8 = some (.cells (c92 x7) 92) ∧ b8 < n ∧ b6 ≠ b8) (j4 (by simp [ht', f1, f2, f15, f16, f8, f9, f17]) ⟨(upd_ne _ _ d_b6_b8).trans b_b6, l_b6, upd_same _ _ _, l_b8, d_b6_b8⟩) fun t H n q => ?_
    obtain ⟨x9, hx9, h⟩ := bnd h
    apply eY 6; simp [q, ld_92_0_92]
    refine Stk.cv (g := g2) (first := first2) (caps := caps2) (args := first2 ++ [.agg (c92 x5), .agg (c92 x7)] ++ caps2) (args' := first2 ++ [.agg (c92 x5), .agg (c92 x7)] ++ caps2) (v := .sc (.bool x9)) [] (hφ2 _ _ _ hx9) (by simp [q, ld_92_0_92]) rfl (by simp [q, ld_92_0_92]) (by simp [q, ld_92_0_92]) (viewL_mid (x := [.agg (c92 x5), .agg (c92 x7)]) (y := [.agg (c92 x5), .agg (c92 x7)]) fr2.1 fr2.2 (.cons (.free (fr92 _)) (.cons (.free (fr92 _)) (.nil)))) (.inl ⟨rfl, rfl⟩) ?_
    rintro _ rfl
    apply eY 2; simp [q, ld_92_0_92]
    refine cd (!x9) (by simp [q, ld_92_0_92]) (fun hb10 => ?_) (fun hb10 => ?_)
    ·have h := cT hb10 h
     apply eY 5; simp [q, ld_92_0_92]
     obtain rfl := sj h
     exact (hF hr (by simp [q, ld_92_0_92]) rfl).1
    ·have h := cF hb10 h
     apply eY 6; simp [q, ld_92_0_92]
     exact lm (hJ1 _ _ _ _ ⟨(IntKind.i64.wrap (v2 + 1)), h, by simp [q, ld_92_0_92]⟩)
   ·have h := cF hb4 h
    refine Stk.ex rfl ?_
    apply eY 5; simp [q]
    obtain rfl := sj h
    exact (hF hr (by simp [q]) rfl).1
theorem ok_aal_ACon (F : Nat) (a0 : (List ACon)) (a1 : (List ACon)) (φ2 : ACon → ACon → Option Bool) (g2 : FuncId) (first2 caps2 : List AV) (fr2 : freeL first2 = true ∧ freeL caps2 = true) (hφ2 : ∀ y0 y1 r, φ2 y0 y1 = some r → RunF Tryz.prog T.T g2 (first2 ++ [.agg (c92 y0), .agg (c92 y1)] ++ caps2) (.sc (.bool r))) (r : Bool) (h : aal_ACon F a0 a1 φ2 = some r) : RunF Tryz.prog T.T 157 [.ssl (encs c92 a0) a0.length false, .ssl (encs c92 a1) a1.length false, .fn (.func g2) first2 caps2] (.sc (.bool r)) := by
  rw [aal_ACon] at h
  refine RunF.z Tryz.func157 rfl rfl rfl rfl rfl (fun C hr => ?_)
  refine gn (fun t H n => t 0 = .ssl (encs c92 a0) a0.length false ∧ t 1 = .ssl (encs c92 a1) a1.length false ∧ t 2 = .fn (.func g2) first2 caps2) ⟨by simp, by simp, by simp⟩ fun t H n q => ?_
  obtain ⟨x1, hx1, h⟩ := bnd h
  apply eY 9; simp [q]
  refine cw (ok_sEqCon F _ _ _ _ _ _ fr2 hφ2 _ hx1) (by simp [q]) rfl rfl (by simp [q]) (.cons (.free (freeL_encs fr92 _)) (.cons (.free (freeL_encs fr92 _)) (.cons (.free (by simp [free, fr2])) (.nil)))) rfl ?_
  rintro _ rfl
  apply eY 3; simp [q]
  obtain rfl := sj h
  exact (hF hr (by simp [q]) rfl).1
theorem ok_ast_sameCon (F : Nat) (a0 : ACon) (a1 : ACon) (r : Bool) (h : ast_sameCon F a0 a1 = some r) : RunF Tryz.prog T.T 158 [.agg (c92 a0), .agg (c92 a1)] (.sc (.bool r)) := by
  rw [ast_sameCon] at h
  refine RunF.z Tryz.func158 rfl rfl rfl rfl rfl (fun C hr => ?_)
  refine gn (fun t H n => t 0 = .agg (c92 a0) ∧ t 1 = .agg (c92 a1)) ⟨by simp, by simp⟩ fun t H n q => ?_
  apply eY 2; simp [q]
  refine gn (fun t H n => t 0 = .agg (c92 a0) ∧ t 1 = .agg (c92 a1)) (by simp [q]) fun t H n q => ?_
  refine Stk.om (mop_box T.t92 (cs := c92 a0) (by show partOk (t 0) = true; rw [q.1]; rfl) (by show cellsOf (t 0) = _; rw [q.1]; rfl)) (by simp [q]) rfl (fun t' ht' => ?_)
  refine gn (fun t H n => ∃ b1, t 1 = .agg (c92 a1) ∧ t 2 = .own b1 0 ∧ H b1 = some (.cells (c92 a0) 92) ∧ b1 < n) ⟨n, j2 (by simp [ht', q]) ⟨upd_same _ _ _, Nat.lt_succ_self _⟩⟩ fun t H n ⟨b1, q⟩ => ?_
  refine Stk.om (mop_box T.t92 (cs := c92 a1) (by show partOk (t 1) = true; rw [q.1]; rfl) (by show cellsOf (t 1) = _; rw [q.1]; rfl)) (by simp [q]) rfl (fun t' ht' => ?_)
  refine gn (fun t H n => ∃ b2, t 2 = .own b1 0 ∧ t 3 = .own b2 0 ∧ H b1 = some (.cells (c92 a0) 92) ∧ b1 < n ∧ H b2 = some (.cells (c92 a1) 92) ∧ b2 < n ∧ b1 ≠ b2) ⟨n, j2 (by simp [ht', q]) ⟨(upd_ne _ _ (Nat.ne_of_lt q.2.2.2)).trans q.2.2.1, Nat.lt_succ_of_lt q.2.2.2, upd_same _ _ _, Nat.lt_succ_self _, Nat.ne_of_lt q.2.2.2⟩⟩ fun t H n ⟨b2, q⟩ => ?_
  apply eY 10; simp [q, ld_92_0_9]
  refine gn (fun t H n => t 2 = .own b1 0 ∧ t 3 = .own b2 0 ∧ t 10 = .sc (.bool (a0.Name.toList == a1.Name.toList)) ∧ H b1 = some (.cells (c92 a0) 92) ∧ b1 < n ∧ H b2 = some (.cells (c92 a1) 92) ∧ b2 < n ∧ b1 ≠ b2) (by simp [q, ld_92_0_9]) fun t H n q => ?_
  obtain ⟨K1, hK1, h⟩ := jnd h
  refine Stk.jo 6 (fun t H n => ∃ v3 : Bool, K1 v3 = some r ∧ t 16 = .sc (.bool v3)) (fun J1 hJ1 => ?_) ?_
  · rcases Bool.eq_false_or_eq_true (a0.Name.toList == a1.Name.toList) with hb1 | hb1
    · obtain ⟨f2, f3, f10, b_b1, l_b1, b_b2, l_b2, d_b1_b2⟩ := q
      rw [hb1] at f10
      replace h := cT hb1 h
      obtain ⟨x4, hx4, h⟩ := bnd h
      apply eY 4; simp [f2, f3, f10, b_b1, b_b2, ld_92_1_24]
      refine cw (ok_aal_AType F _ _ _ 88 [] [] (by and_intros <;> first | assumption | simp [freeL, free]) (fun y0 y1 r h => ok_ast_sameType F y0 y1 r h) _ hx4) (by simp [f2, f3, f10, b_b1, b_b2, ld_92_1_24]) rfl rfl (by simp [f2, f3, f10, b_b1, b_b2, ld_92_1_24]) (.cons (.free (freeL_encs fr26 _)) (.cons (.free (freeL_encs fr26 _)) (.cons (.fn .nil (.nil)) (.nil)))) rfl ?_
      rintro _ rfl
      apply eY 2; simp [f2, f3, f10, b_b1, b_b2, ld_92_1_24]
      exact l0 (hJ1 _ _ _ ⟨x4, h, by simp [f2, f3, f10, b_b1, b_b2, ld_92_1_24]⟩)
    · obtain ⟨f2, f3, f10, b_b1, l_b1, b_b2, l_b2, d_b1_b2⟩ := q
      rw [hb1] at f10
      replace h := cF hb1 h
      apply eY 7; simp [f2, f3, f10, b_b1, b_b2]
      exact l0 (hJ1 _ _ _ ⟨false, h, by simp [f2, f3, f10, b_b1, b_b2]⟩)
  clear q h
  rintro t H n ⟨v3, h, q⟩
  subst hK1
  apply eY 3; simp [q]
  obtain rfl := sj h
  exact (hF hr (by simp [q]) rfl).1
theorem ok_ast_sameData (F : Nat) (a0 : AData) (a1 : AData) (r : Bool) (h : ast_sameData F a0 a1 = some r) : RunF Tryz.prog T.T 90 [.agg (c72 a0), .agg (c72 a1)] (.sc (.bool r)) := by
  rw [ast_sameData] at h
  refine RunF.z Tryz.func90 rfl rfl rfl rfl rfl (fun C hr => ?_)
  refine gn (fun t H n => t 0 = .agg (c72 a0) ∧ t 1 = .agg (c72 a1)) ⟨by simp, by simp⟩ fun t H n q => ?_
  apply eY 2; simp [q]
  refine gn (fun t H n => t 0 = .agg (c72 a0) ∧ t 1 = .agg (c72 a1)) (by simp [q]) fun t H n q => ?_
  refine Stk.om (mop_box T.t72 (cs := c72 a0) (by show partOk (t 0) = true; rw [q.1]; rfl) (by show cellsOf (t 0) = _; rw [q.1]; rfl)) (by simp [q]) rfl (fun t' ht' => ?_)
  refine gn (fun t H n => ∃ b1, t 1 = .agg (c72 a1) ∧ t 2 = .own b1 0 ∧ H b1 = some (.cells (c72 a0) 72) ∧ b1 < n) ⟨n, j2 (by simp [ht', q]) ⟨upd_same _ _ _, Nat.lt_succ_self _⟩⟩ fun t H n ⟨b1, q⟩ => ?_
  refine Stk.om (mop_box T.t72 (cs := c72 a1) (by show partOk (t 1) = true; rw [q.1]; rfl) (by show cellsOf (t 1) = _; rw [q.1]; rfl)) (by simp [q]) rfl (fun t' ht' => ?_)
  refine gn (fun t H n => ∃ b2, t 2 = .own b1 0 ∧ t 3 = .own b2 0 ∧ H b1 = some (.cells (c72 a0) 72) ∧ b1 < n ∧ H b2 = some (.cells (c72 a1) 72) ∧ b2 < n ∧ b1 ≠ b2) ⟨n, j2 (by simp [ht', q]) ⟨(upd_ne _ _ (Nat.ne_of_lt q.2.2.2)).trans q.2.2.1, Nat.lt_succ_of_lt q.2.2.2, upd_same _ _ _, Nat.lt_succ_self _, Nat.ne_of_lt q.2.2.2⟩⟩ fun t H n ⟨b2, q⟩ => ?_
  apply eY 10; simp [q, ld_72_2_9]
  refine gn (fun t H n => t 2 = .own b1 0 ∧ t 3 = .own b2 0 ∧ t 10 = .sc (.bool (a0.Name.toList == a1.Name.toList)) ∧ H b1 = some (.cells (c72 a0) 72) ∧ b1 < n ∧ H b2 = some (.cells (c72 a1) 72) ∧ b2 < n ∧ b1 ≠ b2) (by simp [q, ld_72_2_9]) fun t H n q => ?_
  obtain ⟨K1, hK1, h⟩ := jnd h
  refine Stk.jo 6 (fun t H n => ∃ v3 : Bool, K1 v3 = some r ∧ t 16 = .sc (.bool v3)) (fun J1 hJ1 => ?_) ?_
  · rcases Bool.eq_false_or_eq_true (a0.Name.toList == a1.Name.toList) with hb1 | hb1
    · obtain ⟨f2, f3, f10, b_b1, l_b1, b_b2, l_b2, d_b1_b2⟩ := q
      rw [hb1] at f10
      replace h := cT hb1 h
      obtain ⟨x4, hx4, h⟩ := bnd h
      apply eY 4; simp [f2, f3, f10, b_b1, b_b2, ld_72_3_70]
      refine cw (ok_aal_ACon F _ _ _ 158 [] [] (by and_intros <;> first | assumption | simp [freeL, free]) (fun y0 y1 r h => ok_ast_sameCon F y0 y1 r h) _ hx4) (by simp [f2, f3, f10, b_b1, b_b2, ld_72_3_70]) rfl rfl (by simp [f2, f3, f10, b_b1, b_b2, ld_72_3_70]) (.cons (.free (freeL_encs fr92 _)) (.cons (.free (freeL_encs fr92 _)) (.cons (.fn .nil (.nil)) (.nil)))) rfl ?_
      rintro _ rfl
      apply eY 2; simp [f2, f3, f10, b_b1, b_b2, ld_72_3_70]
      exact l0 (hJ1 _ _ _ ⟨x4, h, by simp [f2, f3, f10, b_b1, b_b2, ld_72_3_70]⟩)
    · obtain ⟨f2, f3, f10, b_b1, l_b1, b_b2, l_b2, d_b1_b2⟩ := q
      rw [hb1] at f10
      replace h := cF hb1 h
      apply eY 7; simp [f2, f3, f10, b_b1, b_b2]
      exact l0 (hJ1 _ _ _ ⟨false, h, by simp [f2, f3, f10, b_b1, b_b2]⟩)
  clear q h
  rintro t H n ⟨v3, h, q⟩
  subst hK1
  apply eY 3; simp [q]
  obtain rfl := sj h
  exact (hF hr (by simp [q]) rfl).1
@[simp] abbrev Q4_2 (a0 : (List AFun)) (a1 : (List AFun)) (caps2 : List AV) (first2 : List AV) (g2 : FuncId) (t : Nat → AV) : Prop := t 1 = .ssl (encs c77 a1) a1.length false ∧ t 2 = .fn (.func g2) first2 caps2 ∧ t 15 = .ssl (encs c77 a0) a0.length false ∧ t 16 = .sc (.int .i64 (a0.length : Int))
theorem ok_sEqFun (F : Nat) (a0 : (List AFun)) (a1 : (List AFun)) (φ2 : AFun → AFun → Option Bool) (g2 : FuncId) (first2 caps2 : List AV) (fr2 : freeL first2 = true ∧ freeL caps2 = true) (hφ2 : ∀ y0 y1 r, φ2 y0 y1 = some r → RunF Tryz.prog T.T g2 (first2 ++ [.agg (c77 y0), .agg (c77 y1)] ++ caps2) (.sc (.bool r))) (r : Bool) (h : sEqFun F a0 a1 φ2 = some r) : RunF Tryz.prog T.T 159 [.ssl (encs c77 a0) a0.length false, .ssl (encs c77 a1) a1.length false, .fn (.func g2) first2 caps2] (.sc (.bool r)) := by
  rw [sEqFun] at h
  refine RunF.z Tryz.func159 rfl rfl rfl rfl rfl (fun C hr => ?_)
  refine gn (fun t H n => t 0 = .ssl (encs c77 a0) a0.length false ∧ t 1 = .ssl (encs c77 a1) a1.length false ∧ t 2 = .fn (.func g2) first2 caps2) ⟨by simp, by simp, by simp⟩ fun t H n q => ?_
  apply eY 13; simp [q]
  refine cd ((a0.length : Int) != (a1.length : Int)) (by simp [q]) (fun hb1 => ?_) (fun hb1 => ?_)
  ·have h := cT hb1 h
   apply eY 5; simp [q]
   obtain rfl := sj h
   exact (hF hr (by simp [q]) rfl).1
  ·have h := cF hb1 h
   apply eY 9; simp [q]
   refine gn (fun t H n => Q4_2 a0 a1 caps2 first2 g2 t ∧ t 17 = .sc (.int .i64 0)) (by simp [q]) fun t H n q => ?_
   refine Stk.lo (fun μ t H n => ∃ v2 : Int, sEqFun_L0 F a0 a1 φ2 μ v2 = some r ∧ t 1 = .ssl (encs c77 a1) a1.length false ∧ t 2 = .fn (.func g2) first2 caps2 ∧ t 15 = .ssl (encs c77 a0) a0.length false ∧ t 16 = .sc (.int .i64 (a0.length : Int)) ∧ t 17 = .sc (.int .i64 v2)) F ⟨0, h, q.1.1, q.1.2.1, q.1.2.2.1, q.1.2.2.2, q.2⟩ ?_
   clear q h
   rintro J1 hJ1 μ t H n ⟨v2, h, q⟩
   cases μ with
   | zero => exact absurd h (by simp [sEqFun_L0])
   | succ μ =>
   rw [sEqFun_L0] at h
   apply eY 5; simp [q]
   refine cd (decide (v2 < (a0.length : Int))) (by simp [q]) (fun hb4 => ?_) (fun hb4 => ?_)
   ·have h := cT hb4 h
    obtain ⟨x5, hx5, h⟩ := bnd h
    obtain ⟨i0x5, i1x5, i2x5, _⟩ := idx_ok hx5
    have ex5_0_77 : partOf T.T 77 (encs c77 a0) (v2.toNat * 15) = some (.agg (c77 x5)) := (part_elem0 (e := c77) (z := 15) (ty := 77) T.t77 (by decide) (by decide) hx5 0 (by decide)).trans (ld_77_0_77 _)
    apply eY 8; simp [q, i0x5, i1x5, pd77, ex5_0_77]
    refine Stk.oz T.t77 (cs := c77 (AFun.mk (APos.mk 0 0) ⟨#[]⟩ [] (AType.mk 0 ⟨#[]⟩ []) (AExpr.mk 0 (APos.mk 0 0) 0 [] ⟨#[]⟩ [] []))) (by rfl) rfl (by simp [q, i0x5, i1x5, pd77, ex5_0_77]) rfl (fun t' ht' => ?_)
    refine gn (fun t H n => ∃ b6, Q4_2 a0 a1 caps2 first2 g2 t ∧ t 8 = .own b6 0 ∧ t 17 = .sc (.int .i64 v2) ∧ t 19 = .sc (.int .i64 v2) ∧ t 21 = .agg (c77 x5) ∧ H b6 = some (.cells (c77 (AFun.mk (APos.mk 0 0) ⟨#[]⟩ [] (AType.mk 0 ⟨#[]⟩ []) (AExpr.mk 0 (APos.mk 0 0) 0 [] ⟨#[]⟩ [] []))) 77) ∧ b6 < n) ⟨n, j5 (by simp [ht', q, i0x5, i1x5, pd77, ex5_0_77]) ⟨upd_same _ _ _, Nat.lt_succ_self _⟩⟩ fun t H n ⟨b6, ⟨f1, f2, f15, f16⟩, f8, f17, f19, f21, b_b6, l_b6⟩ => ?_
    apply eY 1; simp [f1, f2, f8, f15, f16, f17, f19, f21, b_b6]
    refine Stk.om (mop_store (z := 15) (o := 0) (v := .agg (c77 x5)) rfl (by simp [f1, f2, f8, f15, f16, f17, f19, f21, b_b6]) b_b6 (by simp [f1, f2, f8, f15, f16, f17, f19, f21, b_b6]) (len77 _) (by rw [len77]; decide) (ok77 _) (st_77_0_77 _ _)) (by simp [f1, f2, f8, f15, f16, f17, f19, f21, b_b6]) rfl (fun t' ht' => ?_)
    refine gn (fun t H n => Q4_2 a0 a1 caps2 first2 g2 t ∧ t 7 = .sc (.int .i64 v2) ∧ t 8 = .own b6 0 ∧ t 17 = .sc (.int .i64 v2) ∧ H b6 = some (.cells (c77 x5) 77) ∧ b6 < n) (j4 (by simp [ht', f1, f2, f8, f15, f16, f17, f19, f21, b_b6]) ⟨upd_same _ _ _, l_b6⟩) fun t H n q => ?_
    obtain ⟨x7, hx7, h⟩ := bnd h
    obtain ⟨i0x7, i1x7, i2x7, _⟩ := idx_ok hx7
    have ex7_0_77 : partOf T.T 77 (encs c77 a1) (v2.toNat * 15) = some (.agg (c77 x7)) := (part_elem0 (e := c77) (z := 15) (ty := 77) T.t77 (by decide) (by decide) hx7 0 (by decide)).trans (ld_77_0_77 _)
    apply eY 7; simp [q, i0x7, i1x7, pd77, ex7_0_77]
    refine Stk.oz T.t77 (cs := c77 (AFun.mk (APos.mk 0 0) ⟨#[]⟩ [] (AType.mk 0 ⟨#[]⟩ []) (AExpr.mk 0 (APos.mk 0 0) 0 [] ⟨#[]⟩ [] []))) (by rfl) rfl (by simp [q, i0x7, i1x7, pd77, ex7_0_77]) rfl (fun t' ht' => ?_)
    refine gn (fun t H n => ∃ b8, Q4_2 a0 a1 caps2 first2 g2 t ∧ t 8 = .own b6 0 ∧ t 9 = .own b8 0 ∧ t 17 = .sc (.int .i64 v2) ∧ t 25 = .agg (c77 x7) ∧ H b6 = some (.cells (c77 x5) 77) ∧ b6 < n ∧ H b8 = some (.cells (c77 (AFun.mk (APos.mk 0 0) ⟨#[]⟩ [] (AType.mk 0 ⟨#[]⟩ []) (AExpr.mk 0 (APos.mk 0 0) 0 [] ⟨#[]⟩ [] []))) 77) ∧ b8 < n ∧ b6 ≠ b8) ⟨n, j5 (by simp [ht', q, i0x7, i1x7, pd77, ex7_0_77]) ⟨(upd_ne _ _ (Nat.ne_of_lt q.2.2.2.2.2)).trans q.2.2.2.2.1, Nat.lt_succ_of_lt q.2.2.2.2.2, upd_same _ _ _, Nat.lt_succ_self _, Nat.ne_of_lt q.2.2.2.2.2⟩⟩ fun t H n ⟨b8, ⟨f1, f2, f15, f16⟩, f8, f9, f17, f25, b_b6, l_b6, b_b8, l_b8, d_b6_b8⟩ => ?_
    refine Stk.om (mop_store (z := 15) rfl f9 b_b8 f25 (len77 _) (by rw [len77]; decide) (ok77 _) (st_77_0_77 _ _)) (by simp [f1, f2, f8, f9, f15, f16, f17, f25]) rfl (fun t' ht' => ?_)
    refine gn (fun t H n => Q4_2 a0 a1 caps2 first2 g2 t ∧ t 8 = .own b6 0 ∧ t 9 = .own b8 0 ∧ t 17 = .sc (.int .i64 v2) ∧ H b6 = some (.cells (c77 x5) 77) ∧ b6 < n ∧ H b8 = some (.cells (c77 x7) 77) ∧ b8 < n ∧ b6 ≠ b8) (j4 (by simp [ht', f1, f2, f15, f16, f8, f9, f17]) ⟨(upd_ne _ _ d_b6_b8).trans b_b6, l_b6, upd_same _ _ _, l_b8, d_b6_b8⟩) fun t H n q => ?_
    obtain ⟨x9, hx9, h⟩ := bnd h
    apply eY 6; simp [q, ld_77_0_77]
    refine Stk.cv (g := g2) (first := first2) (caps := caps2) (args := first2 ++ [.agg (c77 x5), .agg (c77 x7)] ++ caps2) (args' := first2 ++ [.agg (c77 x5), .agg (c77 x7)] ++ caps2) (v := .sc (.bool x9)) [] (hφ2 _ _ _ hx9) (by simp [q, ld_77_0_77]) rfl (by simp [q, ld_77_0_77]) (by simp [q, ld_77_0_77]) (viewL_mid (x := [.agg (c77 x5), .agg (c77 x7)]) (y := [.agg (c77 x5), .agg (c77 x7)]) fr2.1 fr2.2 (.cons (.free (fr77 _)) (.cons (.free (fr77 _)) (.nil)))) (.inl ⟨rfl, rfl⟩) ?_
    rintro _ rfl
    apply eY 2; simp [q, ld_77_0_77]
    refine cd (!x9) (by simp [q, ld_77_0_77]) (fun hb10 => ?_) (fun hb10 => ?_)
    ·have h := cT hb10 h
     apply eY 5; simp [q, ld_77_0_77]
     obtain rfl := sj h
     exact (hF hr (by simp [q, ld_77_0_77]) rfl).1
    ·have h := cF hb10 h
     apply eY 6; simp [q, ld_77_0_77]
     exact lm (hJ1 _ _ _ _ ⟨(IntKind.i64.wrap (v2 + 1)), h, by simp [q, ld_77_0_77]⟩)
   ·have h := cF hb4 h
    refine Stk.ex rfl ?_
    apply eY 5; simp [q]
    obtain rfl := sj h
    exact (hF hr (by simp [q]) rfl).1
theorem ok_aal_AFun (F : Nat) (a0 : (List AFun)) (a1 : (List AFun)) (φ2 : AFun → AFun → Option Bool) (g2 : FuncId) (first2 caps2 : List AV) (fr2 : freeL first2 = true ∧ freeL caps2 = true) (hφ2 : ∀ y0 y1 r, φ2 y0 y1 = some r → RunF Tryz.prog T.T g2 (first2 ++ [.agg (c77 y0), .agg (c77 y1)] ++ caps2) (.sc (.bool r))) (r : Bool) (h : aal_AFun F a0 a1 φ2 = some r) : RunF Tryz.prog T.T 91 [.ssl (encs c77 a0) a0.length false, .ssl (encs c77 a1) a1.length false, .fn (.func g2) first2 caps2] (.sc (.bool r)) := by
  rw [aal_AFun] at h
  refine RunF.z Tryz.func91 rfl rfl rfl rfl rfl (fun C hr => ?_)
  refine gn (fun t H n => t 0 = .ssl (encs c77 a0) a0.length false ∧ t 1 = .ssl (encs c77 a1) a1.length false ∧ t 2 = .fn (.func g2) first2 caps2) ⟨by simp, by simp, by simp⟩ fun t H n q => ?_
  obtain ⟨x1, hx1, h⟩ := bnd h
  apply eY 9; simp [q]
  refine cw (ok_sEqFun F _ _ _ _ _ _ fr2 hφ2 _ hx1) (by simp [q]) rfl rfl (by simp [q]) (.cons (.free (freeL_encs fr77 _)) (.cons (.free (freeL_encs fr77 _)) (.cons (.free (by simp [free, fr2])) (.nil)))) rfl ?_
  rintro _ rfl
  apply eY 3; simp [q]
  obtain rfl := sj h
  exact (hF hr (by simp [q]) rfl).1
@[simp] abbrev Q4_3 (a0 : (List AParam)) (a1 : (List AParam)) (caps2 : List AV) (first2 : List AV) (g2 : FuncId) (t : Nat → AV) : Prop := t 1 = .ssl (encs c81 a1) a1.length false ∧ t 2 = .fn (.func g2) first2 caps2 ∧ t 15 = .ssl (encs c81 a0) a0.length false ∧ t 16 = .sc (.int .i64 (a0.length : Int))
theorem ok_sEqParam (F : Nat) (a0 : (List AParam)) (a1 : (List AParam)) (φ2 : AParam → AParam → Option Bool) (g2 : FuncId) (first2 caps2 : List AV) (fr2 : freeL first2 = true ∧ freeL caps2 = true) (hφ2 : ∀ y0 y1 r, φ2 y0 y1 = some r → RunF Tryz.prog T.T g2 (first2 ++ [.agg (c81 y0), .agg (c81 y1)] ++ caps2) (.sc (.bool r))) (r : Bool) (h : sEqParam F a0 a1 φ2 = some r) : RunF Tryz.prog T.T 193 [.ssl (encs c81 a0) a0.length false, .ssl (encs c81 a1) a1.length false, .fn (.func g2) first2 caps2] (.sc (.bool r)) := by
  rw [sEqParam] at h
  refine RunF.z Tryz.func193 rfl rfl rfl rfl rfl (fun C hr => ?_)
  refine gn (fun t H n => t 0 = .ssl (encs c81 a0) a0.length false ∧ t 1 = .ssl (encs c81 a1) a1.length false ∧ t 2 = .fn (.func g2) first2 caps2) ⟨by simp, by simp, by simp⟩ fun t H n q => ?_
  apply eY 13; simp [q]
  refine cd ((a0.length : Int) != (a1.length : Int)) (by simp [q]) (fun hb1 => ?_) (fun hb1 => ?_)
  ·have h := cT hb1 h
   apply eY 5; simp [q]
   obtain rfl := sj h
   exact (hF hr (by simp [q]) rfl).1
  ·have h := cF hb1 h
   apply eY 9; simp [q]
   refine gn (fun t H n => Q4_3 a0 a1 caps2 first2 g2 t ∧ t 17 = .sc (.int .i64 0)) (by simp [q]) fun t H n q => ?_
   refine Stk.lo (fun μ t H n => ∃ v2 : Int, sEqParam_L0 F a0 a1 φ2 μ v2 = some r ∧ t 1 = .ssl (encs c81 a1) a1.length false ∧ t 2 = .fn (.func g2) first2 caps2 ∧ t 15 = .ssl (encs c81 a0) a0.length false ∧ t 16 = .sc (.int .i64 (a0.length : Int)) ∧ t 17 = .sc (.int .i64 v2)) F ⟨0, h, q.1.1, q.1.2.1, q.1.2.2.1, q.1.2.2.2, q.2⟩ ?_
   clear q h
   rintro J1 hJ1 μ t H n ⟨v2, h, q⟩
   cases μ with
   | zero => exact absurd h (by simp [sEqParam_L0])
   | succ μ =>
   rw [sEqParam_L0] at h
   apply eY 5; simp [q]
   refine cd (decide (v2 < (a0.length : Int))) (by simp [q]) (fun hb4 => ?_) (fun hb4 => ?_)
   ·have h := cT hb4 h
    obtain ⟨x5, hx5, h⟩ := bnd h
    obtain ⟨i0x5, i1x5, i2x5, _⟩ := idx_ok hx5
    have ex5_0_81 : partOf T.T 81 (encs c81 a0) (v2.toNat * 4) = some (.agg (c81 x5)) := (part_elem0 (e := c81) (z := 4) (ty := 81) T.t81 (by decide) (by decide) hx5 0 (by decide)).trans (ld_81_0_81 _)
    apply eY 8; simp [q, i0x5, i1x5, pd81, ex5_0_81]
    refine Stk.oz T.t81 (cs := c81 (AParam.mk ⟨#[]⟩ (AType.mk 0 ⟨#[]⟩ []))) (by rfl) rfl (by simp [q, i0x5, i1x5, pd81, ex5_0_81]) rfl (fun t' ht' => ?_)
    refine gn (fun t H n => ∃ b6, Q4_3 a0 a1 caps2 first2 g2 t ∧ t 8 = .own b6 0 ∧ t 17 = .sc (.int .i64 v2) ∧ t 19 = .sc (.int .i64 v2) ∧ t 21 = .agg (c81 x5) ∧ H b6 = some (.cells (c81 (AParam.mk ⟨#[]⟩ (AType.mk 0 ⟨#[]⟩ []))) 81) ∧ b6 < n) ⟨n, j5 (by simp [ht', q, i0x5, i1x5, pd81, ex5_0_81]) ⟨upd_same _ _ _, Nat.lt_succ_self _⟩⟩ fun t H n ⟨b6, ⟨f1, f2, f15, f16⟩, f8, f17, f19, f21, b_b6, l_b6⟩ => ?_
    apply eY 1; simp [f1, f2, f8, f15, f16, f17, f19, f21, b_b6]
    refine Stk.om (mop_store (z := 4) (o := 0) (v := .agg (c81 x5)) rfl (by simp [f1, f2, f8, f15, f16, f17, f19, f21, b_b6]) b_b6 (by simp [f1, f2, f8, f15, f16, f17, f19, f21, b_b6]) (len81 _) (by rw [len81]; decide) (ok81 _) (st_81_0_81 _ _)) (by simp [f1, f2, f8, f15, f16, f17, f19, f21, b_b6]) rfl (fun t' ht' => ?_)
    refine gn (fun t H n => Q4_3 a0 a1 caps2 first2 g2 t ∧ t 7 = .sc (.int .i64 v2) ∧ t 8 = .own b6 0 ∧ t 17 = .sc (.int .i64 v2) ∧ H b6 = some (.cells (c81 x5) 81) ∧ b6 < n) (j4 (by simp [ht', f1, f2, f8, f15, f16, f17, f19, f21, b_b6]) ⟨upd_same _ _ _, l_b6⟩) fun t H n q => ?_
    obtain ⟨x7, hx7, h⟩ := bnd h
    obtain ⟨i0x7, i1x7, i2x7, _⟩ := idx_ok hx7
    have ex7_0_81 : partOf T.T 81 (encs c81 a1) (v2.toNat * 4) = some (.agg (c81 x7)) := (part_elem0 (e := c81) (z := 4) (ty := 81) T.t81 (by decide) (by decide) hx7 0 (by decide)).trans (ld_81_0_81 _)
    apply eY 7; simp [q, i0x7, i1x7, pd81, ex7_0_81]
    refine Stk.oz T.t81 (cs := c81 (AParam.mk ⟨#[]⟩ (AType.mk 0 ⟨#[]⟩ []))) (by rfl) rfl (by simp [q, i0x7, i1x7, pd81, ex7_0_81]) rfl (fun t' ht' => ?_)
    refine gn (fun t H n => ∃ b8, Q4_3 a0 a1 caps2 first2 g2 t ∧ t 8 = .own b6 0 ∧ t 9 = .own b8 0 ∧ t 17 = .sc (.int .i64 v2) ∧ t 25 = .agg (c81 x7) ∧ H b6 = some (.cells (c81 x5) 81) ∧ b6 < n ∧ H b8 = some (.cells (c81 (AParam.mk ⟨#[]⟩ (AType.mk 0 ⟨#[]⟩ []))) 81) ∧ b8 < n ∧ b6 ≠ b8) ⟨n, j5 (by simp [ht', q, i0x7, i1x7, pd81, ex7_0_81]) ⟨(upd_ne _ _ (Nat.ne_of_lt q.2.2.2.2.2)).trans q.2.2.2.2.1, Nat.lt_succ_of_lt q.2.2.2.2.2, upd_same _ _ _, Nat.lt_succ_self _, Nat.ne_of_lt q.2.2.2.2.2⟩⟩ fun t H n ⟨b8, ⟨f1, f2, f15, f16⟩, f8, f9, f17, f25, b_b6, l_b6, b_b8, l_b8, d_b6_b8⟩ => ?_
    refine Stk.om (mop_store (z := 4) rfl f9 b_b8 f25 (len81 _) (by rw [len81]; decide) (ok81 _) (st_81_0_81 _ _)) (by simp [f1, f2, f8, f9, f15, f16, f17, f25]) rfl (fun t' ht' => ?_)
    refine gn (fun t H n => Q4_3 a0 a1 caps2 first2 g2 t ∧ t 8 = .own b6 0 ∧ t 9 = .own b8 0 ∧ t 17 = .sc (.int .i64 v2) ∧ H b6 = some (.cells (c81 x5) 81) ∧ b6 < n ∧ H b8 = some (.cells (c81 x7) 81) ∧ b8 < n ∧ b6 ≠ b8) (j4 (by simp [ht', f1, f2, f15, f16, f8, f9, f17]) ⟨(upd_ne _ _ d_b6_b8).trans b_b6, l_b6, upd_same _ _ _, l_b8, d_b6_b8⟩) fun t H n q => ?_
    obtain ⟨x9, hx9, h⟩ := bnd h
    apply eY 6; simp [q, ld_81_0_81]
    refine Stk.cv (g := g2) (first := first2) (caps := caps2) (args := first2 ++ [.agg (c81 x5), .agg (c81 x7)] ++ caps2) (args' := first2 ++ [.agg (c81 x5), .agg (c81 x7)] ++ caps2) (v := .sc (.bool x9)) [] (hφ2 _ _ _ hx9) (by simp [q, ld_81_0_81]) rfl (by simp [q, ld_81_0_81]) (by simp [q, ld_81_0_81]) (viewL_mid (x := [.agg (c81 x5), .agg (c81 x7)]) (y := [.agg (c81 x5), .agg (c81 x7)]) fr2.1 fr2.2 (.cons (.free (fr81 _)) (.cons (.free (fr81 _)) (.nil)))) (.inl ⟨rfl, rfl⟩) ?_
    rintro _ rfl
    apply eY 2; simp [q, ld_81_0_81]
    refine cd (!x9) (by simp [q, ld_81_0_81]) (fun hb10 => ?_) (fun hb10 => ?_)
    ·have h := cT hb10 h
     apply eY 5; simp [q, ld_81_0_81]
     obtain rfl := sj h
     exact (hF hr (by simp [q, ld_81_0_81]) rfl).1
    ·have h := cF hb10 h
     apply eY 6; simp [q, ld_81_0_81]
     exact lm (hJ1 _ _ _ _ ⟨(IntKind.i64.wrap (v2 + 1)), h, by simp [q, ld_81_0_81]⟩)
   ·have h := cF hb4 h
    refine Stk.ex rfl ?_
    apply eY 5; simp [q]
    obtain rfl := sj h
    exact (hF hr (by simp [q]) rfl).1
theorem ok_aal_AParam (F : Nat) (a0 : (List AParam)) (a1 : (List AParam)) (φ2 : AParam → AParam → Option Bool) (g2 : FuncId) (first2 caps2 : List AV) (fr2 : freeL first2 = true ∧ freeL caps2 = true) (hφ2 : ∀ y0 y1 r, φ2 y0 y1 = some r → RunF Tryz.prog T.T g2 (first2 ++ [.agg (c81 y0), .agg (c81 y1)] ++ caps2) (.sc (.bool r))) (r : Bool) (h : aal_AParam F a0 a1 φ2 = some r) : RunF Tryz.prog T.T 160 [.ssl (encs c81 a0) a0.length false, .ssl (encs c81 a1) a1.length false, .fn (.func g2) first2 caps2] (.sc (.bool r)) := by
  rw [aal_AParam] at h
  refine RunF.z Tryz.func160 rfl rfl rfl rfl rfl (fun C hr => ?_)
  refine gn (fun t H n => t 0 = .ssl (encs c81 a0) a0.length false ∧ t 1 = .ssl (encs c81 a1) a1.length false ∧ t 2 = .fn (.func g2) first2 caps2) ⟨by simp, by simp, by simp⟩ fun t H n q => ?_
  obtain ⟨x1, hx1, h⟩ := bnd h
  apply eY 9; simp [q]
  refine cw (ok_sEqParam F _ _ _ _ _ _ fr2 hφ2 _ hx1) (by simp [q]) rfl rfl (by simp [q]) (.cons (.free (freeL_encs fr81 _)) (.cons (.free (freeL_encs fr81 _)) (.cons (.free (by simp [free, fr2])) (.nil)))) rfl ?_
  rintro _ rfl
  apply eY 3; simp [q]
  obtain rfl := sj h
  exact (hF hr (by simp [q]) rfl).1
theorem ok_ast_sameParam (F : Nat) (a0 : AParam) (a1 : AParam) (r : Bool) (h : ast_sameParam F a0 a1 = some r) : RunF Tryz.prog T.T 161 [.agg (c81 a0), .agg (c81 a1)] (.sc (.bool r)) := by
  rw [ast_sameParam] at h
  refine RunF.z Tryz.func161 rfl rfl rfl rfl rfl (fun C hr => ?_)
  refine gn (fun t H n => t 0 = .agg (c81 a0) ∧ t 1 = .agg (c81 a1)) ⟨by simp, by simp⟩ fun t H n q => ?_
  apply eY 2; simp [q]
  refine gn (fun t H n => t 0 = .agg (c81 a0) ∧ t 1 = .agg (c81 a1)) (by simp [q]) fun t H n q => ?_
  refine Stk.om (mop_box T.t81 (cs := c81 a0) (by show partOk (t 0) = true; rw [q.1]; rfl) (by show cellsOf (t 0) = _; rw [q.1]; rfl)) (by simp [q]) rfl (fun t' ht' => ?_)
  refine gn (fun t H n => ∃ b1, t 1 = .agg (c81 a1) ∧ t 2 = .own b1 0 ∧ H b1 = some (.cells (c81 a0) 81) ∧ b1 < n) ⟨n, j2 (by simp [ht', q]) ⟨upd_same _ _ _, Nat.lt_succ_self _⟩⟩ fun t H n ⟨b1, q⟩ => ?_
  refine Stk.om (mop_box T.t81 (cs := c81 a1) (by show partOk (t 1) = true; rw [q.1]; rfl) (by show cellsOf (t 1) = _; rw [q.1]; rfl)) (by simp [q]) rfl (fun t' ht' => ?_)
  refine gn (fun t H n => ∃ b2, t 2 = .own b1 0 ∧ t 3 = .own b2 0 ∧ H b1 = some (.cells (c81 a0) 81) ∧ b1 < n ∧ H b2 = some (.cells (c81 a1) 81) ∧ b2 < n ∧ b1 ≠ b2) ⟨n, j2 (by simp [ht', q]) ⟨(upd_ne _ _ (Nat.ne_of_lt q.2.2.2)).trans q.2.2.1, Nat.lt_succ_of_lt q.2.2.2, upd_same _ _ _, Nat.lt_succ_self _, Nat.ne_of_lt q.2.2.2⟩⟩ fun t H n ⟨b2, q⟩ => ?_
  apply eY 10; simp [q, ld_81_0_9]
  refine gn (fun t H n => t 2 = .own b1 0 ∧ t 3 = .own b2 0 ∧ t 10 = .sc (.bool (a0.Name.toList == a1.Name.toList)) ∧ H b1 = some (.cells (c81 a0) 81) ∧ b1 < n ∧ H b2 = some (.cells (c81 a1) 81) ∧ b2 < n ∧ b1 ≠ b2) (by simp [q, ld_81_0_9]) fun t H n q => ?_
  obtain ⟨K1, hK1, h⟩ := jnd h
  refine Stk.jo 6 (fun t H n => ∃ v3 : Bool, K1 v3 = some r ∧ t 16 = .sc (.bool v3)) (fun J1 hJ1 => ?_) ?_
  · rcases Bool.eq_false_or_eq_true (a0.Name.toList == a1.Name.toList) with hb1 | hb1
    · obtain ⟨f2, f3, f10, b_b1, l_b1, b_b2, l_b2, d_b1_b2⟩ := q
      rw [hb1] at f10
      replace h := cT hb1 h
      obtain ⟨x4, hx4, h⟩ := bnd h
      apply eY 4; simp [f2, f3, f10, b_b1, b_b2, ld_81_1_26]
      refine cw (ok_ast_sameType F _ _ _ hx4) (by simp [f2, f3, f10, b_b1, b_b2, ld_81_1_26]) rfl rfl (by simp [f2, f3, f10, b_b1, b_b2, ld_81_1_26]) (.cons (.free (fr26 _)) (.cons (.free (fr26 _)) (.nil))) rfl ?_
      rintro _ rfl
      apply eY 2; simp [f2, f3, f10, b_b1, b_b2, ld_81_1_26]
      exact l0 (hJ1 _ _ _ ⟨x4, h, by simp [f2, f3, f10, b_b1, b_b2, ld_81_1_26]⟩)
    · obtain ⟨f2, f3, f10, b_b1, l_b1, b_b2, l_b2, d_b1_b2⟩ := q
      rw [hb1] at f10
      replace h := cF hb1 h
      apply eY 7; simp [f2, f3, f10, b_b1, b_b2]
      exact l0 (hJ1 _ _ _ ⟨false, h, by simp [f2, f3, f10, b_b1, b_b2]⟩)
  clear q h
  rintro t H n ⟨v3, h, q⟩
  subst hK1
  apply eY 3; simp [q]
  obtain rfl := sj h
  exact (hF hr (by simp [q]) rfl).1
@[simp] abbrev Q4_4 (a0 : AFun) (a1 : AFun) (b1 : Nat) (b2 : Nat) (t : Nat → AV) (H : Mem) (n : Nat) : Prop := t 2 = .own b1 0 ∧ t 3 = .own b2 0 ∧ H b1 = some (.cells (c77 a0) 77) ∧ b1 < n ∧ H b2 = some (.cells (c77 a1) 77) ∧ b2 < n ∧ b1 ≠ b2
theorem ok_ast_sameFun (F : Nat) (a0 : AFun) (a1 : AFun) (r : Bool) (h : ast_sameFun F a0 a1 = some r) : RunF Tryz.prog T.T 92 [.agg (c77 a0), .agg (c77 a1)] (.sc (.bool r)) := by
  rw [ast_sameFun] at h
  refine RunF.z Tryz.func92 rfl rfl rfl rfl rfl (fun C hr => ?_)
  refine gn (fun t H n => t 0 = .agg (c77 a0) ∧ t 1 = .agg (c77 a1)) ⟨by simp, by simp⟩ fun t H n q => ?_
  apply eY 2; simp [q]
  refine gn (fun t H n => t 0 = .agg (c77 a0) ∧ t 1 = .agg (c77 a1)) (by simp [q]) fun t H n q => ?_
  refine Stk.om (mop_box T.t77 (cs := c77 a0) (by show partOk (t 0) = true; rw [q.1]; rfl) (by show cellsOf (t 0) = _; rw [q.1]; rfl)) (by simp [q]) rfl (fun t' ht' => ?_)
  refine gn (fun t H n => ∃ b1, t 1 = .agg (c77 a1) ∧ t 2 = .own b1 0 ∧ H b1 = some (.cells (c77 a0) 77) ∧ b1 < n) ⟨n, j2 (by simp [ht', q]) ⟨upd_same _ _ _, Nat.lt_succ_self _⟩⟩ fun t H n ⟨b1, q⟩ => ?_
  refine Stk.om (mop_box T.t77 (cs := c77 a1) (by show partOk (t 1) = true; rw [q.1]; rfl) (by show cellsOf (t 1) = _; rw [q.1]; rfl)) (by simp [q]) rfl (fun t' ht' => ?_)
  refine gn (fun t H n => ∃ b2, t 2 = .own b1 0 ∧ t 3 = .own b2 0 ∧ H b1 = some (.cells (c77 a0) 77) ∧ b1 < n ∧ H b2 = some (.cells (c77 a1) 77) ∧ b2 < n ∧ b1 ≠ b2) ⟨n, j2 (by simp [ht', q]) ⟨(upd_ne _ _ (Nat.ne_of_lt q.2.2.2)).trans q.2.2.1, Nat.lt_succ_of_lt q.2.2.2, upd_same _ _ _, Nat.lt_succ_self _, Nat.ne_of_lt q.2.2.2⟩⟩ fun t H n ⟨b2, q⟩ => ?_
  apply eY 10; simp [q, ld_77_2_9]
  refine gn (fun t H n => Q4_4 a0 a1 b1 b2 t H n ∧ t 10 = .sc (.bool (a0.Name.toList == a1.Name.toList))) (by simp [q, ld_77_2_9]) fun t H n q => ?_
  obtain ⟨K1, hK1, h⟩ := jnd h
  refine Stk.jo 6 (fun t H n => ∃ v3 : Bool, K1 v3 = some r ∧ t 2 = .own b1 0 ∧ t 3 = .own b2 0 ∧ t 16 = .sc (.bool v3) ∧ H b1 = some (.cells (c77 a0) 77) ∧ b1 < n ∧ H b2 = some (.cells (c77 a1) 77) ∧ b2 < n ∧ b1 ≠ b2) (fun J1 hJ1 => ?_) ?_
  · rcases Bool.eq_false_or_eq_true (a0.Name.toList == a1.Name.toList) with hb1 | hb1
    · obtain ⟨⟨f2, f3, b_b1, l_b1, b_b2, l_b2, d_b1_b2⟩, f10⟩ := q
      rw [hb1] at f10
      replace h := cT hb1 h
      obtain ⟨x4, hx4, h⟩ := bnd h
      apply eY 4; simp [f2, f3, f10, b_b1, b_b2, ld_77_3_75]
      refine cw (ok_aal_AParam F _ _ _ 161 [] [] (by and_intros <;> first | assumption | simp [freeL, free]) (fun y0 y1 r h => ok_ast_sameParam F y0 y1 r h) _ hx4) (by simp [f2, f3, f10, b_b1, b_b2, ld_77_3_75]) rfl rfl (by simp [f2, f3, f10, b_b1, b_b2, ld_77_3_75]) (.cons (.free (freeL_encs fr81 _)) (.cons (.free (freeL_encs fr81 _)) (.cons (.fn .nil (.nil)) (.nil)))) rfl ?_
      rintro _ rfl
      apply eY 2; simp [f2, f3, f10, b_b1, b_b2, ld_77_3_75]
      exact l0 (hJ1 _ _ _ ⟨x4, h, by and_intros <;> first | assumption | simp [f2, f3, f10, b_b1, b_b2, ld_77_3_75]⟩)
    · obtain ⟨⟨f2, f3, b_b1, l_b1, b_b2, l_b2, d_b1_b2⟩, f10⟩ := q
      rw [hb1] at f10
      replace h := cF hb1 h
      apply eY 7; simp [f2, f3, f10, b_b1, b_b2]
      exact l0 (hJ1 _ _ _ ⟨false, h, by and_intros <;> first | assumption | simp [f2, f3, f10, b_b1, b_b2]⟩)
  clear q h
  rintro t H n ⟨v3, h, q⟩
  subst hK1
  apply eY 1; simp [q]
  refine gn (fun t H n => Q4_4 a0 a1 b1 b2 t H n ∧ t 17 = .sc (.bool v3)) (by simp [q]) fun t H n q => ?_
  obtain ⟨K2, hK2, h⟩ := jnd h
  refine Stk.jo 6 (fun t H n => ∃ v5 : Bool, K2 v5 = some r ∧ t 2 = .own b1 0 ∧ t 3 = .own b2 0 ∧ t 23 = .sc (.bool v5) ∧ H b1 = some (.cells (c77 a0) 77) ∧ b1 < n ∧ H b2 = some (.cells (c77 a1) 77) ∧ b2 < n ∧ b1 ≠ b2) (fun J2 hJ2 => ?_) ?_
  · rcases Bool.eq_false_or_eq_true v3 with hb2 | hb2
    · obtain ⟨⟨f2, f3, b_b1, l_b1, b_b2, l_b2, d_b1_b2⟩, f17⟩ := q
      rw [hb2] at f17
      replace h := cT hb2 h
      obtain ⟨x6, hx6, h⟩ := bnd h
      apply eY 4; simp [f2, f3, f17, b_b1, b_b2, ld_77_4_26]
      refine cw (ok_ast_sameType F _ _ _ hx6) (by simp [f2, f3, f17, b_b1, b_b2, ld_77_4_26]) rfl rfl (by simp [f2, f3, f17, b_b1, b_b2, ld_77_4_26]) (.cons (.free (fr26 _)) (.cons (.free (fr26 _)) (.nil))) rfl ?_
      rintro _ rfl
      apply eY 2; simp [f2, f3, f17, b_b1, b_b2, ld_77_4_26]
      exact l0 (hJ2 _ _ _ ⟨x6, h, by and_intros <;> first | assumption | simp [f2, f3, f17, b_b1, b_b2, ld_77_4_26]⟩)
    · obtain ⟨⟨f2, f3, b_b1, l_b1, b_b2, l_b2, d_b1_b2⟩, f17⟩ := q
      rw [hb2] at f17
      replace h := cF hb2 h
      apply eY 7; simp [f2, f3, f17, b_b1, b_b2]
      exact l0 (hJ2 _ _ _ ⟨false, h, by and_intros <;> first | assumption | simp [f2, f3, f17, b_b1, b_b2]⟩)
  clear q h
  rintro t H n ⟨v5, h, q⟩
  subst hK2
  apply eY 1; simp [q]
  refine gn (fun t H n => Q4_4 a0 a1 b1 b2 t H n ∧ t 24 = .sc (.bool v5)) (by simp [q]) fun t H n q => ?_
  obtain ⟨K3, hK3, h⟩ := jnd h
  refine Stk.jo 6 (fun t H n => ∃ v7 : Bool, K3 v7 = some r ∧ t 30 = .sc (.bool v7)) (fun J3 hJ3 => ?_) ?_
  · rcases Bool.eq_false_or_eq_true v5 with hb3 | hb3
    · obtain ⟨⟨f2, f3, b_b1, l_b1, b_b2, l_b2, d_b1_b2⟩, f24⟩ := q
      rw [hb3] at f24
      replace h := cT hb3 h
      obtain ⟨x8, hx8, h⟩ := bnd h
      apply eY 4; simp [f2, f3, f24, b_b1, b_b2, ld_77_7_33]
      refine cw (ok_ast_SameExpr F _ _ _ hx8) (by simp [f2, f3, f24, b_b1, b_b2, ld_77_7_33]) rfl rfl (by simp [f2, f3, f24, b_b1, b_b2, ld_77_7_33]) (.cons (.free (fr33 _)) (.cons (.free (fr33 _)) (.nil))) rfl ?_
      rintro _ rfl
      apply eY 2; simp [f2, f3, f24, b_b1, b_b2, ld_77_7_33]
      exact l0 (hJ3 _ _ _ ⟨x8, h, by simp [f2, f3, f24, b_b1, b_b2, ld_77_7_33]⟩)
    · obtain ⟨⟨f2, f3, b_b1, l_b1, b_b2, l_b2, d_b1_b2⟩, f24⟩ := q
      rw [hb3] at f24
      replace h := cF hb3 h
      apply eY 7; simp [f2, f3, f24, b_b1, b_b2]
      exact l0 (hJ3 _ _ _ ⟨false, h, by simp [f2, f3, f24, b_b1, b_b2]⟩)
  clear q h
  rintro t H n ⟨v7, h, q⟩
  subst hK3
  apply eY 3; simp [q]
  obtain rfl := sj h
  exact (hF hr (by simp [q]) rfl).1
@[simp] abbrev Q4_5 (a0 : (List AHand)) (a1 : (List AHand)) (caps2 : List AV) (first2 : List AV) (g2 : FuncId) (t : Nat → AV) : Prop := t 1 = .ssl (encs c83 a1) a1.length false ∧ t 2 = .fn (.func g2) first2 caps2 ∧ t 15 = .ssl (encs c83 a0) a0.length false ∧ t 16 = .sc (.int .i64 (a0.length : Int))
theorem ok_sEqHand (F : Nat) (a0 : (List AHand)) (a1 : (List AHand)) (φ2 : AHand → AHand → Option Bool) (g2 : FuncId) (first2 caps2 : List AV) (fr2 : freeL first2 = true ∧ freeL caps2 = true) (hφ2 : ∀ y0 y1 r, φ2 y0 y1 = some r → RunF Tryz.prog T.T g2 (first2 ++ [.agg (c83 y0), .agg (c83 y1)] ++ caps2) (.sc (.bool r))) (r : Bool) (h : sEqHand F a0 a1 φ2 = some r) : RunF Tryz.prog T.T 162 [.ssl (encs c83 a0) a0.length false, .ssl (encs c83 a1) a1.length false, .fn (.func g2) first2 caps2] (.sc (.bool r)) := by
  rw [sEqHand] at h
  refine RunF.z Tryz.func162 rfl rfl rfl rfl rfl (fun C hr => ?_)
  refine gn (fun t H n => t 0 = .ssl (encs c83 a0) a0.length false ∧ t 1 = .ssl (encs c83 a1) a1.length false ∧ t 2 = .fn (.func g2) first2 caps2) ⟨by simp, by simp, by simp⟩ fun t H n q => ?_
  apply eY 13; simp [q]
  refine cd ((a0.length : Int) != (a1.length : Int)) (by simp [q]) (fun hb1 => ?_) (fun hb1 => ?_)
  ·have h := cT hb1 h
   apply eY 5; simp [q]
   obtain rfl := sj h
   exact (hF hr (by simp [q]) rfl).1
  ·have h := cF hb1 h
   apply eY 9; simp [q]
   refine gn (fun t H n => Q4_5 a0 a1 caps2 first2 g2 t ∧ t 17 = .sc (.int .i64 0)) (by simp [q]) fun t H n q => ?_
   refine Stk.lo (fun μ t H n => ∃ v2 : Int, sEqHand_L0 F a0 a1 φ2 μ v2 = some r ∧ t 1 = .ssl (encs c83 a1) a1.length false ∧ t 2 = .fn (.func g2) first2 caps2 ∧ t 15 = .ssl (encs c83 a0) a0.length false ∧ t 16 = .sc (.int .i64 (a0.length : Int)) ∧ t 17 = .sc (.int .i64 v2)) F ⟨0, h, q.1.1, q.1.2.1, q.1.2.2.1, q.1.2.2.2, q.2⟩ ?_
   clear q h
   rintro J1 hJ1 μ t H n ⟨v2, h, q⟩
   cases μ with
   | zero => exact absurd h (by simp [sEqHand_L0])
   | succ μ =>
   rw [sEqHand_L0] at h
   apply eY 5; simp [q]
   refine cd (decide (v2 < (a0.length : Int))) (by simp [q]) (fun hb4 => ?_) (fun hb4 => ?_)
   ·have h := cT hb4 h
    obtain ⟨x5, hx5, h⟩ := bnd h
    obtain ⟨i0x5, i1x5, i2x5, _⟩ := idx_ok hx5
    have ex5_0_83 : partOf T.T 83 (encs c83 a0) (v2.toNat * 16) = some (.agg (c83 x5)) := (part_elem0 (e := c83) (z := 16) (ty := 83) T.t83 (by decide) (by decide) hx5 0 (by decide)).trans (ld_83_0_83 _)
    apply eY 8; simp [q, i0x5, i1x5, pd83, ex5_0_83]
    refine Stk.oz T.t83 (cs := c83 (AHand.mk (APos.mk 0 0) ⟨#[]⟩ (AParam.mk ⟨#[]⟩ (AType.mk 0 ⟨#[]⟩ [])) 0 (AExpr.mk 0 (APos.mk 0 0) 0 [] ⟨#[]⟩ [] []))) (by rfl) rfl (by simp [q, i0x5, i1x5, pd83, ex5_0_83]) rfl (fun t' ht' => ?_)
    refine gn (fun t H n => ∃ b6, Q4_5 a0 a1 caps2 first2 g2 t ∧ t 8 = .own b6 0 ∧ t 17 = .sc (.int .i64 v2) ∧ t 19 = .sc (.int .i64 v2) ∧ t 21 = .agg (c83 x5) ∧ H b6 = some (.cells (c83 (AHand.mk (APos.mk 0 0) ⟨#[]⟩ (AParam.mk ⟨#[]⟩ (AType.mk 0 ⟨#[]⟩ [])) 0 (AExpr.mk 0 (APos.mk 0 0) 0 [] ⟨#[]⟩ [] []))) 83) ∧ b6 < n) ⟨n, j5 (by simp [ht', q, i0x5, i1x5, pd83, ex5_0_83]) ⟨upd_same _ _ _, Nat.lt_succ_self _⟩⟩ fun t H n ⟨b6, ⟨f1, f2, f15, f16⟩, f8, f17, f19, f21, b_b6, l_b6⟩ => ?_
    apply eY 1; simp [f1, f2, f8, f15, f16, f17, f19, f21, b_b6]
    refine Stk.om (mop_store (z := 16) (o := 0) (v := .agg (c83 x5)) rfl (by simp [f1, f2, f8, f15, f16, f17, f19, f21, b_b6]) b_b6 (by simp [f1, f2, f8, f15, f16, f17, f19, f21, b_b6]) (len83 _) (by rw [len83]; decide) (ok83 _) (st_83_0_83 _ _)) (by simp [f1, f2, f8, f15, f16, f17, f19, f21, b_b6]) rfl (fun t' ht' => ?_)
    refine gn (fun t H n => Q4_5 a0 a1 caps2 first2 g2 t ∧ t 7 = .sc (.int .i64 v2) ∧ t 8 = .own b6 0 ∧ t 17 = .sc (.int .i64 v2) ∧ H b6 = some (.cells (c83 x5) 83) ∧ b6 < n) (j4 (by simp [ht', f1, f2, f8, f15, f16, f17, f19, f21, b_b6]) ⟨upd_same _ _ _, l_b6⟩) fun t H n q => ?_
    obtain ⟨x7, hx7, h⟩ := bnd h
    obtain ⟨i0x7, i1x7, i2x7, _⟩ := idx_ok hx7
    have ex7_0_83 : partOf T.T 83 (encs c83 a1) (v2.toNat * 16) = some (.agg (c83 x7)) := (part_elem0 (e := c83) (z := 16) (ty := 83) T.t83 (by decide) (by decide) hx7 0 (by decide)).trans (ld_83_0_83 _)
    apply eY 7; simp [q, i0x7, i1x7, pd83, ex7_0_83]
    refine Stk.oz T.t83 (cs := c83 (AHand.mk (APos.mk 0 0) ⟨#[]⟩ (AParam.mk ⟨#[]⟩ (AType.mk 0 ⟨#[]⟩ [])) 0 (AExpr.mk 0 (APos.mk 0 0) 0 [] ⟨#[]⟩ [] []))) (by rfl) rfl (by simp [q, i0x7, i1x7, pd83, ex7_0_83]) rfl (fun t' ht' => ?_)
    refine gn (fun t H n => ∃ b8, Q4_5 a0 a1 caps2 first2 g2 t ∧ t 8 = .own b6 0 ∧ t 9 = .own b8 0 ∧ t 17 = .sc (.int .i64 v2) ∧ t 25 = .agg (c83 x7) ∧ H b6 = some (.cells (c83 x5) 83) ∧ b6 < n ∧ H b8 = some (.cells (c83 (AHand.mk (APos.mk 0 0) ⟨#[]⟩ (AParam.mk ⟨#[]⟩ (AType.mk 0 ⟨#[]⟩ [])) 0 (AExpr.mk 0 (APos.mk 0 0) 0 [] ⟨#[]⟩ [] []))) 83) ∧ b8 < n ∧ b6 ≠ b8) ⟨n, j5 (by simp [ht', q, i0x7, i1x7, pd83, ex7_0_83]) ⟨(upd_ne _ _ (Nat.ne_of_lt q.2.2.2.2.2)).trans q.2.2.2.2.1, Nat.lt_succ_of_lt q.2.2.2.2.2, upd_same _ _ _, Nat.lt_succ_self _, Nat.ne_of_lt q.2.2.2.2.2⟩⟩ fun t H n ⟨b8, ⟨f1, f2, f15, f16⟩, f8, f9, f17, f25, b_b6, l_b6, b_b8, l_b8, d_b6_b8⟩ => ?_
    refine Stk.om (mop_store (z := 16) rfl f9 b_b8 f25 (len83 _) (by rw [len83]; decide) (ok83 _) (st_83_0_83 _ _)) (by simp [f1, f2, f8, f9, f15, f16, f17, f25]) rfl (fun t' ht' => ?_)
    refine gn (fun t H n => Q4_5 a0 a1 caps2 first2 g2 t ∧ t 8 = .own b6 0 ∧ t 9 = .own b8 0 ∧ t 17 = .sc (.int .i64 v2) ∧ H b6 = some (.cells (c83 x5) 83) ∧ b6 < n ∧ H b8 = some (.cells (c83 x7) 83) ∧ b8 < n ∧ b6 ≠ b8) (j4 (by simp [ht', f1, f2, f15, f16, f8, f9, f17]) ⟨(upd_ne _ _ d_b6_b8).trans b_b6, l_b6, upd_same _ _ _, l_b8, d_b6_b8⟩) fun t H n q => ?_
    obtain ⟨x9, hx9, h⟩ := bnd h
    apply eY 6; simp [q, ld_83_0_83]
    refine Stk.cv (g := g2) (first := first2) (caps := caps2) (args := first2 ++ [.agg (c83 x5), .agg (c83 x7)] ++ caps2) (args' := first2 ++ [.agg (c83 x5), .agg (c83 x7)] ++ caps2) (v := .sc (.bool x9)) [] (hφ2 _ _ _ hx9) (by simp [q, ld_83_0_83]) rfl (by simp [q, ld_83_0_83]) (by simp [q, ld_83_0_83]) (viewL_mid (x := [.agg (c83 x5), .agg (c83 x7)]) (y := [.agg (c83 x5), .agg (c83 x7)]) fr2.1 fr2.2 (.cons (.free (fr83 _)) (.cons (.free (fr83 _)) (.nil)))) (.inl ⟨rfl, rfl⟩) ?_
    rintro _ rfl
    apply eY 2; simp [q, ld_83_0_83]
    refine cd (!x9) (by simp [q, ld_83_0_83]) (fun hb10 => ?_) (fun hb10 => ?_)
    ·have h := cT hb10 h
     apply eY 5; simp [q, ld_83_0_83]
     obtain rfl := sj h
     exact (hF hr (by simp [q, ld_83_0_83]) rfl).1
    ·have h := cF hb10 h
     apply eY 6; simp [q, ld_83_0_83]
     exact lm (hJ1 _ _ _ _ ⟨(IntKind.i64.wrap (v2 + 1)), h, by simp [q, ld_83_0_83]⟩)
   ·have h := cF hb4 h
    refine Stk.ex rfl ?_
    apply eY 5; simp [q]
    obtain rfl := sj h
    exact (hF hr (by simp [q]) rfl).1
theorem ok_aal_AHand (F : Nat) (a0 : (List AHand)) (a1 : (List AHand)) (φ2 : AHand → AHand → Option Bool) (g2 : FuncId) (first2 caps2 : List AV) (fr2 : freeL first2 = true ∧ freeL caps2 = true) (hφ2 : ∀ y0 y1 r, φ2 y0 y1 = some r → RunF Tryz.prog T.T g2 (first2 ++ [.agg (c83 y0), .agg (c83 y1)] ++ caps2) (.sc (.bool r))) (r : Bool) (h : aal_AHand F a0 a1 φ2 = some r) : RunF Tryz.prog T.T 93 [.ssl (encs c83 a0) a0.length false, .ssl (encs c83 a1) a1.length false, .fn (.func g2) first2 caps2] (.sc (.bool r)) := by
  rw [aal_AHand] at h
  refine RunF.z Tryz.func93 rfl rfl rfl rfl rfl (fun C hr => ?_)
  refine gn (fun t H n => t 0 = .ssl (encs c83 a0) a0.length false ∧ t 1 = .ssl (encs c83 a1) a1.length false ∧ t 2 = .fn (.func g2) first2 caps2) ⟨by simp, by simp, by simp⟩ fun t H n q => ?_
  obtain ⟨x1, hx1, h⟩ := bnd h
  apply eY 9; simp [q]
  refine cw (ok_sEqHand F _ _ _ _ _ _ fr2 hφ2 _ hx1) (by simp [q]) rfl rfl (by simp [q]) (.cons (.free (freeL_encs fr83 _)) (.cons (.free (freeL_encs fr83 _)) (.cons (.free (by simp [free, fr2])) (.nil)))) rfl ?_
  rintro _ rfl
  apply eY 3; simp [q]
  obtain rfl := sj h
  exact (hF hr (by simp [q]) rfl).1
theorem ok_ast_sameHand (F : Nat) (a0 : AHand) (a1 : AHand) (r : Bool) (h : ast_sameHand F a0 a1 = some r) : RunF Tryz.prog T.T 94 [.agg (c83 a0), .agg (c83 a1)] (.sc (.bool r)) := by
  rw [ast_sameHand] at h
  refine RunF.z Tryz.func94 rfl rfl rfl rfl rfl (fun C hr => ?_)
  refine gn (fun t H n => t 0 = .agg (c83 a0) ∧ t 1 = .agg (c83 a1)) ⟨by simp, by simp⟩ fun t H n q => ?_
  apply eY 2; simp [q]
  refine gn (fun t H n => t 0 = .agg (c83 a0) ∧ t 1 = .agg (c83 a1)) (by simp [q]) fun t H n q => ?_
  refine Stk.om (mop_box T.t83 (cs := c83 a0) (by show partOk (t 0) = true; rw [q.1]; rfl) (by show cellsOf (t 0) = _; rw [q.1]; rfl)) (by simp [q]) rfl (fun t' ht' => ?_)
  refine gn (fun t H n => ∃ b1, t 1 = .agg (c83 a1) ∧ t 2 = .own b1 0 ∧ H b1 = some (.cells (c83 a0) 83) ∧ b1 < n) ⟨n, j2 (by simp [ht', q]) ⟨upd_same _ _ _, Nat.lt_succ_self _⟩⟩ fun t H n ⟨b1, q⟩ => ?_
  refine Stk.om (mop_box T.t83 (cs := c83 a1) (by show partOk (t 1) = true; rw [q.1]; rfl) (by show cellsOf (t 1) = _; rw [q.1]; rfl)) (by simp [q]) rfl (fun t' ht' => ?_)
  refine gn (fun t H n => ∃ b2, t 2 = .own b1 0 ∧ t 3 = .own b2 0 ∧ H b1 = some (.cells (c83 a0) 83) ∧ b1 < n ∧ H b2 = some (.cells (c83 a1) 83) ∧ b2 < n ∧ b1 ≠ b2) ⟨n, j2 (by simp [ht', q]) ⟨(upd_ne _ _ (Nat.ne_of_lt q.2.2.2)).trans q.2.2.1, Nat.lt_succ_of_lt q.2.2.2, upd_same _ _ _, Nat.lt_succ_self _, Nat.ne_of_lt q.2.2.2⟩⟩ fun t H n ⟨b2, q⟩ => ?_
  apply eY 10; simp [q, ld_83_2_9]
  refine Stk.gd 6 10 16 (fun z => .sc (.bool (z && (a0.Cap == a1.Cap)))) (w := (a0.Name.toList == a1.Name.toList)) (by simp [q, ld_83_2_9]) (by simp [q, ld_83_2_9, ld_83_7_3]) (by simp [q, ld_83_2_9, ld_83_7_3]) ?_; simp [q, ld_83_2_9]
  apply eY 1; simp [q, ld_83_2_9]
  refine gn (fun t H n => t 2 = .own b1 0 ∧ t 3 = .own b2 0 ∧ t 17 = .sc (.bool ((a0.Name.toList == a1.Name.toList) && (a0.Cap == a1.Cap))) ∧ H b1 = some (.cells (c83 a0) 83) ∧ b1 < n ∧ H b2 = some (.cells (c83 a1) 83) ∧ b2 < n ∧ b1 ≠ b2) (by simp [q, ld_83_2_9]) fun t H n q => ?_
  obtain ⟨K1, hK1, h⟩ := jnd h
  refine Stk.jo 6 (fun t H n => ∃ v3 : Bool, K1 v3 = some r ∧ t 2 = .own b1 0 ∧ t 3 = .own b2 0 ∧ t 23 = .sc (.bool v3) ∧ H b1 = some (.cells (c83 a0) 83) ∧ b1 < n ∧ H b2 = some (.cells (c83 a1) 83) ∧ b2 < n ∧ b1 ≠ b2) (fun J1 hJ1 => ?_) ?_
  · rcases Bool.eq_false_or_eq_true ((a0.Name.toList == a1.Name.toList) && (a0.Cap == a1.Cap)) with hb1 | hb1
    · obtain ⟨f2, f3, f17, b_b1, l_b1, b_b2, l_b2, d_b1_b2⟩ := q
      rw [hb1] at f17
      replace h := cT hb1 h
      obtain ⟨x4, hx4, h⟩ := bnd h
      apply eY 4; simp [f2, f3, f17, b_b1, b_b2, ld_83_3_81]
      refine cw (ok_ast_sameParam F _ _ _ hx4) (by simp [f2, f3, f17, b_b1, b_b2, ld_83_3_81]) rfl rfl (by simp [f2, f3, f17, b_b1, b_b2, ld_83_3_81]) (.cons (.free (fr81 _)) (.cons (.free (fr81 _)) (.nil))) rfl ?_
      rintro _ rfl
      apply eY 2; simp [f2, f3, f17, b_b1, b_b2, ld_83_3_81]
      exact l0 (hJ1 _ _ _ ⟨x4, h, by and_intros <;> first | assumption | simp [f2, f3, f17, b_b1, b_b2, ld_83_3_81]⟩)
    · obtain ⟨f2, f3, f17, b_b1, l_b1, b_b2, l_b2, d_b1_b2⟩ := q
      rw [hb1] at f17
      replace h := cF hb1 h
      apply eY 7; simp [f2, f3, f17, b_b1, b_b2]
      exact l0 (hJ1 _ _ _ ⟨false, h, by and_intros <;> first | assumption | simp [f2, f3, f17, b_b1, b_b2]⟩)
  clear q h
  rintro t H n ⟨v3, h, q⟩
  subst hK1
  apply eY 1; simp [q]
  refine gn (fun t H n => t 2 = .own b1 0 ∧ t 3 = .own b2 0 ∧ t 24 = .sc (.bool v3) ∧ H b1 = some (.cells (c83 a0) 83) ∧ b1 < n ∧ H b2 = some (.cells (c83 a1) 83) ∧ b2 < n ∧ b1 ≠ b2) (by simp [q]) fun t H n q => ?_
  obtain ⟨K2, hK2, h⟩ := jnd h
  refine Stk.jo 6 (fun t H n => ∃ v5 : Bool, K2 v5 = some r ∧ t 30 = .sc (.bool v5)) (fun J2 hJ2 => ?_) ?_
  · rcases Bool.eq_false_or_eq_true v3 with hb2 | hb2
    · obtain ⟨f2, f3, f24, b_b1, l_b1, b_b2, l_b2, d_b1_b2⟩ := q
      rw [hb2] at f24
      replace h := cT hb2 h
      obtain ⟨x6, hx6, h⟩ := bnd h
      apply eY 4; simp [f2, f3, f24, b_b1, b_b2, ld_83_8_33]
      refine cw (ok_ast_SameExpr F _ _ _ hx6) (by simp [f2, f3, f24, b_b1, b_b2, ld_83_8_33]) rfl rfl (by simp [f2, f3, f24, b_b1, b_b2, ld_83_8_33]) (.cons (.free (fr33 _)) (.cons (.free (fr33 _)) (.nil))) rfl ?_
      rintro _ rfl
      apply eY 2; simp [f2, f3, f24, b_b1, b_b2, ld_83_8_33]
      exact l0 (hJ2 _ _ _ ⟨x6, h, by simp [f2, f3, f24, b_b1, b_b2, ld_83_8_33]⟩)
    · obtain ⟨f2, f3, f24, b_b1, l_b1, b_b2, l_b2, d_b1_b2⟩ := q
      rw [hb2] at f24
      replace h := cF hb2 h
      apply eY 7; simp [f2, f3, f24, b_b1, b_b2]
      exact l0 (hJ2 _ _ _ ⟨false, h, by simp [f2, f3, f24, b_b1, b_b2]⟩)
  clear q h
  rintro t H n ⟨v5, h, q⟩
  subst hK2
  apply eY 3; simp [q]
  obtain rfl := sj h
  exact (hF hr (by simp [q]) rfl).1
attribute [-simp] Go.Proofs.YtappiofmkoelnaaGreatDoorW.Ah.splice
open Go.Proofs.YtappiofmkoelnaaGreatDoorW.Ah Go.Proofs.YtappiofmkoelnaaGreatDoor
set_option linter.unusedVariables false
set_option linter.unusedSimpArgs false
set_option maxRecDepth 8000
attribute [local simp] T.t2 T.t3 T.t4 T.t9 T.t22 T.t23 T.t24 T.t26 T.t29 T.t30 T.t31 T.t33 T.t34 T.t36 T.t37 T.t39 T.t68 T.t70 T.t72 T.t81 T.t92 List.range List.range.loop
attribute [-simp] appendAV fillAV
@[simp] abbrev Q5_1 (a0 : AProg) (a1 : AProg) (b1 : Nat) (b2 : Nat) (t : Nat → AV) (H : Mem) (n : Nat) : Prop := t 2 = .own b1 0 ∧ t 3 = .own b2 0 ∧ H b1 = some (.cells (c36 a0) 36) ∧ b1 < n ∧ H b2 = some (.cells (c36 a1) 36) ∧ b2 < n ∧ b1 ≠ b2
theorem ok_ast_Same (F : Nat) (a0 : AProg) (a1 : AProg) (r : Bool) (h : ast_Same F a0 a1 = some r) : RunF Tryz.prog T.T 34 [.agg (c36 a0), .agg (c36 a1)] (.sc (.bool r)) := by
  rw [ast_Same] at h
  refine RunF.z Tryz.func34 rfl rfl rfl rfl rfl (fun C hr => ?_)
  refine gn (fun t H n => t 0 = .agg (c36 a0) ∧ t 1 = .agg (c36 a1)) ⟨by simp, by simp⟩ fun t H n q => ?_
  apply eY 2; simp [q]
  refine gn (fun t H n => t 0 = .agg (c36 a0) ∧ t 1 = .agg (c36 a1)) (by simp [q]) fun t H n q => ?_
  refine Stk.om (mop_box T.t36 (cs := c36 a0) (by show partOk (t 0) = true; rw [q.1]; rfl) (by show cellsOf (t 0) = _; rw [q.1]; rfl)) (by simp [q]) rfl (fun t' ht' => ?_)
  refine gn (fun t H n => ∃ b1, t 1 = .agg (c36 a1) ∧ t 2 = .own b1 0 ∧ H b1 = some (.cells (c36 a0) 36) ∧ b1 < n) ⟨n, j2 (by simp [ht', q]) ⟨upd_same _ _ _, Nat.lt_succ_self _⟩⟩ fun t H n ⟨b1, q⟩ => ?_
  refine Stk.om (mop_box T.t36 (cs := c36 a1) (by show partOk (t 1) = true; rw [q.1]; rfl) (by show cellsOf (t 1) = _; rw [q.1]; rfl)) (by simp [q]) rfl (fun t' ht' => ?_)
  refine gn (fun t H n => ∃ b2, t 2 = .own b1 0 ∧ t 3 = .own b2 0 ∧ H b1 = some (.cells (c36 a0) 36) ∧ b1 < n ∧ H b2 = some (.cells (c36 a1) 36) ∧ b2 < n ∧ b1 ≠ b2) ⟨n, j2 (by simp [ht', q]) ⟨(upd_ne _ _ (Nat.ne_of_lt q.2.2.2)).trans q.2.2.1, Nat.lt_succ_of_lt q.2.2.2, upd_same _ _ _, Nat.lt_succ_self _, Nat.ne_of_lt q.2.2.2⟩⟩ fun t H n ⟨b2, q⟩ => ?_
  apply eY 11; simp [q, ld_36_2_3]
  refine Stk.gd 6 10 16 (fun z => .sc (.bool (z || (a0.Timers != a1.Timers)))) (w := (a0.Queue != a1.Queue)) (by simp [q, ld_36_2_3]) (by simp [q, ld_36_2_3, ld_36_3_3]) (by simp [q, ld_36_2_3, ld_36_3_3]) ?_; simp [q, ld_36_2_3]
  apply eY 1; simp [q, ld_36_2_3]
  refine Stk.gd 6 17 23 (fun z => .sc (.bool (z || (a0.Cap != a1.Cap)))) (w := ((a0.Queue != a1.Queue) || (a0.Timers != a1.Timers))) (by simp [q, ld_36_2_3]) (by simp [q, ld_36_2_3, ld_36_7_3]) (by simp [q, ld_36_2_3, ld_36_7_3]) ?_; simp [q, ld_36_2_3]
  apply eY 1; simp [q, ld_36_2_3]
  refine gn (fun t H n => Q5_1 a0 a1 b1 b2 t H n ∧ t 24 = .sc (.bool (((a0.Queue != a1.Queue) || (a0.Timers != a1.Timers)) || (a0.Cap != a1.Cap)))) (by simp [q, ld_36_2_3]) fun t H n q => ?_
  obtain ⟨K1, hK1, h⟩ := jnd h
  refine Stk.jo 7 (fun t H n => ∃ v3 : Bool, K1 v3 = some r ∧ t 2 = .own b1 0 ∧ t 3 = .own b2 0 ∧ t 31 = .sc (.bool v3) ∧ H b1 = some (.cells (c36 a0) 36) ∧ b1 < n ∧ H b2 = some (.cells (c36 a1) 36) ∧ b2 < n ∧ b1 ≠ b2) (fun J1 hJ1 => ?_) ?_
  · rcases Bool.eq_false_or_eq_true (((a0.Queue != a1.Queue) || (a0.Timers != a1.Timers)) || (a0.Cap != a1.Cap)) with hb1 | hb1
    · obtain ⟨⟨f2, f3, b_b1, l_b1, b_b2, l_b2, d_b1_b2⟩, f24⟩ := q
      rw [hb1] at f24
      replace h := cT hb1 h
      apply eY 8; simp [f2, f3, f24, b_b1, b_b2]
      exact l0 (hJ1 _ _ _ ⟨true, h, by and_intros <;> first | assumption | simp [f2, f3, f24, b_b1, b_b2]⟩)
    · obtain ⟨⟨f2, f3, b_b1, l_b1, b_b2, l_b2, d_b1_b2⟩, f24⟩ := q
      rw [hb1] at f24
      replace h := cF hb1 h
      obtain ⟨x4, hx4, h⟩ := bnd h
      apply eY 4; simp [f2, f3, f24, b_b1, b_b2, ld_36_4_26]
      refine cw (ok_ast_sameType F _ _ _ hx4) (by simp [f2, f3, f24, b_b1, b_b2, ld_36_4_26]) rfl rfl (by simp [f2, f3, f24, b_b1, b_b2, ld_36_4_26]) (.cons (.free (fr26 _)) (.cons (.free (fr26 _)) (.nil))) rfl ?_
      rintro _ rfl
      apply eY 3; simp [f2, f3, f24, b_b1, b_b2, ld_36_4_26]
      exact l0 (hJ1 _ _ _ ⟨(!x4), h, by and_intros <;> first | assumption | simp [f2, f3, f24, b_b1, b_b2, ld_36_4_26]⟩)
  clear q h
  rintro t H n ⟨v3, h, q⟩
  subst hK1
  apply eY 1; simp [q]
  refine gn (fun t H n => Q5_1 a0 a1 b1 b2 t H n ∧ t 32 = .sc (.bool v3)) (by simp [q]) fun t H n q => ?_
  obtain ⟨K2, hK2, h⟩ := jnd h
  refine Stk.jo 7 (fun t H n => ∃ v5 : Bool, K2 v5 = some r ∧ t 2 = .own b1 0 ∧ t 3 = .own b2 0 ∧ t 39 = .sc (.bool v5) ∧ H b1 = some (.cells (c36 a0) 36) ∧ b1 < n ∧ H b2 = some (.cells (c36 a1) 36) ∧ b2 < n ∧ b1 ≠ b2) (fun J2 hJ2 => ?_) ?_
  · rcases Bool.eq_false_or_eq_true v3 with hb2 | hb2
    · obtain ⟨⟨f2, f3, b_b1, l_b1, b_b2, l_b2, d_b1_b2⟩, f32⟩ := q
      rw [hb2] at f32
      replace h := cT hb2 h
      apply eY 8; simp [f2, f3, f32, b_b1, b_b2]
      exact l0 (hJ2 _ _ _ ⟨true, h, by and_intros <;> first | assumption | simp [f2, f3, f32, b_b1, b_b2]⟩)
    · obtain ⟨⟨f2, f3, b_b1, l_b1, b_b2, l_b2, d_b1_b2⟩, f32⟩ := q
      rw [hb2] at f32
      replace h := cF hb2 h
      obtain ⟨x6, hx6, h⟩ := bnd h
      apply eY 4; simp [f2, f3, f32, b_b1, b_b2, ld_36_8_33]
      refine cw (ok_ast_SameExpr F _ _ _ hx6) (by simp [f2, f3, f32, b_b1, b_b2, ld_36_8_33]) rfl rfl (by simp [f2, f3, f32, b_b1, b_b2, ld_36_8_33]) (.cons (.free (fr33 _)) (.cons (.free (fr33 _)) (.nil))) rfl ?_
      rintro _ rfl
      apply eY 3; simp [f2, f3, f32, b_b1, b_b2, ld_36_8_33]
      exact l0 (hJ2 _ _ _ ⟨(!x6), h, by and_intros <;> first | assumption | simp [f2, f3, f32, b_b1, b_b2, ld_36_8_33]⟩)
  clear q h
  rintro t H n ⟨v5, h, q⟩
  subst hK2
  apply eY 1; simp [q]
  refine cd v5 (by simp [q]) (fun hb7 => ?_) (fun hb7 => ?_)
  ·have h := cT hb7 h
   apply eY 5; simp [q]
   obtain rfl := sj h
   exact (hF hr (by simp [q]) rfl).1
  ·have h := cF hb7 h
   obtain ⟨x8, hx8, h⟩ := bnd h
   apply eY 7; simp [q, ld_36_0_22]
   refine cw (ok_aal_AData F _ _ _ 90 [] [] (by simp [freeL, free]) (fun y0 y1 r h => ok_ast_sameData F y0 y1 r h) _ hx8) (by simp [q, ld_36_0_22]) rfl rfl (by simp [q, ld_36_0_22]) (.cons (.free (freeL_encs fr72 _)) (.cons (.free (freeL_encs fr72 _)) (.cons (.fn .nil (.nil)) (.nil)))) rfl ?_
   rintro _ rfl
   apply eY 1; simp [q, ld_36_0_22]
   refine gn (fun t H n => Q5_1 a0 a1 b1 b2 t H n ∧ t 45 = .sc (.bool x8)) (by simp [q, ld_36_0_22]) fun t H n q => ?_
   obtain ⟨K3, hK3, h⟩ := jnd h
   refine Stk.jo 6 (fun t H n => ∃ v9 : Bool, K3 v9 = some r ∧ t 2 = .own b1 0 ∧ t 3 = .own b2 0 ∧ t 51 = .sc (.bool v9) ∧ H b1 = some (.cells (c36 a0) 36) ∧ b1 < n ∧ H b2 = some (.cells (c36 a1) 36) ∧ b2 < n ∧ b1 ≠ b2) (fun J3 hJ3 => ?_) ?_
   · rcases Bool.eq_false_or_eq_true x8 with hb3 | hb3
     · obtain ⟨⟨f2, f3, b_b1, l_b1, b_b2, l_b2, d_b1_b2⟩, f45⟩ := q
       rw [hb3] at f45
       replace h := cT hb3 h
       obtain ⟨x10, hx10, h⟩ := bnd h
       apply eY 4; simp [f2, f3, f45, b_b1, b_b2, ld_36_1_23]
       refine cw (ok_aal_AFun F _ _ _ 92 [] [] (by and_intros <;> first | assumption | simp [freeL, free]) (fun y0 y1 r h => ok_ast_sameFun F y0 y1 r h) _ hx10) (by simp [f2, f3, f45, b_b1, b_b2, ld_36_1_23]) rfl rfl (by simp [f2, f3, f45, b_b1, b_b2, ld_36_1_23]) (.cons (.free (freeL_encs fr77 _)) (.cons (.free (freeL_encs fr77 _)) (.cons (.fn .nil (.nil)) (.nil)))) rfl ?_
       rintro _ rfl
       apply eY 2; simp [f2, f3, f45, b_b1, b_b2, ld_36_1_23]
       exact l0 (hJ3 _ _ _ ⟨x10, h, by and_intros <;> first | assumption | simp [f2, f3, f45, b_b1, b_b2, ld_36_1_23]⟩)
     · obtain ⟨⟨f2, f3, b_b1, l_b1, b_b2, l_b2, d_b1_b2⟩, f45⟩ := q
       rw [hb3] at f45
       replace h := cF hb3 h
       apply eY 7; simp [f2, f3, f45, b_b1, b_b2]
       exact l0 (hJ3 _ _ _ ⟨false, h, by and_intros <;> first | assumption | simp [f2, f3, f45, b_b1, b_b2]⟩)
   clear q h
   rintro t H n ⟨v9, h, q⟩
   subst hK3
   apply eY 1; simp [q]
   refine gn (fun t H n => Q5_1 a0 a1 b1 b2 t H n ∧ t 52 = .sc (.bool v9)) (by simp [q]) fun t H n q => ?_
   obtain ⟨K4, hK4, h⟩ := jnd h
   refine Stk.jo 6 (fun t H n => ∃ v11 : Bool, K4 v11 = some r ∧ t 58 = .sc (.bool v11)) (fun J4 hJ4 => ?_) ?_
   · rcases Bool.eq_false_or_eq_true v9 with hb4 | hb4
     · obtain ⟨⟨f2, f3, b_b1, l_b1, b_b2, l_b2, d_b1_b2⟩, f52⟩ := q
       rw [hb4] at f52
       replace h := cT hb4 h
       obtain ⟨x12, hx12, h⟩ := bnd h
       apply eY 4; simp [f2, f3, f52, b_b1, b_b2, ld_36_16_34]
       refine cw (ok_aal_AHand F _ _ _ 94 [] [] (by and_intros <;> first | assumption | simp [freeL, free]) (fun y0 y1 r h => ok_ast_sameHand F y0 y1 r h) _ hx12) (by simp [f2, f3, f52, b_b1, b_b2, ld_36_16_34]) rfl rfl (by simp [f2, f3, f52, b_b1, b_b2, ld_36_16_34]) (.cons (.free (freeL_encs fr83 _)) (.cons (.free (freeL_encs fr83 _)) (.cons (.fn .nil (.nil)) (.nil)))) rfl ?_
       rintro _ rfl
       apply eY 2; simp [f2, f3, f52, b_b1, b_b2, ld_36_16_34]
       exact l0 (hJ4 _ _ _ ⟨x12, h, by simp [f2, f3, f52, b_b1, b_b2, ld_36_16_34]⟩)
     · obtain ⟨⟨f2, f3, b_b1, l_b1, b_b2, l_b2, d_b1_b2⟩, f52⟩ := q
       rw [hb4] at f52
       replace h := cF hb4 h
       apply eY 7; simp [f2, f3, f52, b_b1, b_b2]
       exact l0 (hJ4 _ _ _ ⟨false, h, by simp [f2, f3, f52, b_b1, b_b2]⟩)
   clear q h
   rintro t H n ⟨v11, h, q⟩
   subst hK4
   apply eY 3; simp [q]
   obtain rfl := sj h
   exact (hF hr (by simp [q]) rfl).1
theorem okB_R04_SameType (F : Nat) (ρ84 : AType → AType → Option Bool) (hρ84 : ∀ a0 a1 r, ρ84 a0 a1 = some r → RunF Tryz.prog T.T 84 [.agg (c26 a0), .agg (c26 a1)] (.sc (.bool r))) (a0 : AType) (a1 : AType) (r : Bool) (h : R04_SameType_B F ρ84 a0 a1 = some r) : RunF Tryz.prog T.T 84 [.agg (c26 a0), .agg (c26 a1)] (.sc (.bool r)) := by
  rw [R04_SameType_B] at h
  refine RunF.z Tryz.func84 rfl rfl rfl rfl rfl (fun C hr => ?_)
  refine gn (fun t H n => t 0 = .agg (c26 a0) ∧ t 1 = .agg (c26 a1)) ⟨by simp, by simp⟩ fun t H n q => ?_
  apply eY 2; simp [q]
  refine gn (fun t H n => t 0 = .agg (c26 a0) ∧ t 1 = .agg (c26 a1)) (by simp [q]) fun t H n q => ?_
  refine Stk.om (mop_box T.t26 (cs := c26 a0) (by show partOk (t 0) = true; rw [q.1]; rfl) (by show cellsOf (t 0) = _; rw [q.1]; rfl)) (by simp [q]) rfl (fun t' ht' => ?_)
  refine gn (fun t H n => ∃ b1, t 1 = .agg (c26 a1) ∧ t 2 = .own b1 0 ∧ H b1 = some (.cells (c26 a0) 26) ∧ b1 < n) ⟨n, j2 (by simp [ht', q]) ⟨upd_same _ _ _, Nat.lt_succ_self _⟩⟩ fun t H n ⟨b1, q⟩ => ?_
  refine Stk.om (mop_box T.t26 (cs := c26 a1) (by show partOk (t 1) = true; rw [q.1]; rfl) (by show cellsOf (t 1) = _; rw [q.1]; rfl)) (by simp [q]) rfl (fun t' ht' => ?_)
  refine gn (fun t H n => ∃ b2, t 2 = .own b1 0 ∧ t 3 = .own b2 0 ∧ H b1 = some (.cells (c26 a0) 26) ∧ b1 < n ∧ H b2 = some (.cells (c26 a1) 26) ∧ b2 < n ∧ b1 ≠ b2) ⟨n, j2 (by simp [ht', q]) ⟨(upd_ne _ _ (Nat.ne_of_lt q.2.2.2)).trans q.2.2.1, Nat.lt_succ_of_lt q.2.2.2, upd_same _ _ _, Nat.lt_succ_self _, Nat.ne_of_lt q.2.2.2⟩⟩ fun t H n ⟨b2, q⟩ => ?_
  apply eY 11; simp [q, ld_26_0_3]
  refine Stk.gd 6 11 17 (fun z => .sc (.bool (z || (!(a0.Name.toList == a1.Name.toList))))) (w := (a0.Kind != a1.Kind)) (by simp [q, ld_26_0_3]) (by simp [q, ld_26_0_3, ld_26_1_9]) (by simp [q, ld_26_0_3, ld_26_1_9]) ?_; simp [q, ld_26_0_3]
  apply eY 1; simp [q, ld_26_0_3]
  refine Stk.gd 8 18 26 (fun z => .sc (.bool (z || ((a0.Parts.length : Int) != (a1.Parts.length : Int))))) (w := ((a0.Kind != a1.Kind) || (!(a0.Name.toList == a1.Name.toList)))) (by simp [q, ld_26_0_3]) (by simp [q, ld_26_0_3, ld_26_2_24]) (by simp [q, ld_26_0_3, ld_26_2_24]) ?_; simp [q, ld_26_0_3]
  apply eY 1; simp [q, ld_26_0_3]
  refine cd (((a0.Kind != a1.Kind) || (!(a0.Name.toList == a1.Name.toList))) || ((a0.Parts.length : Int) != (a1.Parts.length : Int))) (by simp [q, ld_26_0_3]) (fun hb3 => ?_) (fun hb3 => ?_)
  ·have h := cT hb3 h
   apply eY 5; simp [q, ld_26_0_3]
   obtain rfl := sj h
   exact (hF hr (by simp [q, ld_26_0_3]) rfl).1
  ·have h := cF hb3 h
   apply eY 7; simp [q, ld_26_0_3]
   refine gn (fun t H n => t 2 = .own b1 0 ∧ t 3 = .own b2 0 ∧ t 5 = .sc (.int .i64 0) ∧ H b1 = some (.cells (c26 a0) 26) ∧ b1 < n ∧ H b2 = some (.cells (c26 a1) 26) ∧ b2 < n ∧ b1 ≠ b2) (by simp [q, ld_26_0_3]) fun t H n q => ?_
   refine Stk.lo (fun μ t H n => ∃ v4 : Int, R04_SameType_L0 F ρ84 a0 a1 μ v4 = some r ∧ t 2 = .own b1 0 ∧ t 3 = .own b2 0 ∧ t 5 = .sc (.int .i64 v4) ∧ H b1 = some (.cells (c26 a0) 26) ∧ b1 < n ∧ H b2 = some (.cells (c26 a1) 26) ∧ b2 < n ∧ b1 ≠ b2) F ⟨0, h, q⟩ ?_
   clear q h
   rintro J1 hJ1 μ t H n ⟨v4, h, q⟩
   cases μ with
   | zero => exact absurd h (by simp [R04_SameType_L0])
   | succ μ =>
   rw [R04_SameType_L0] at h
   apply eY 9; simp [q, ld_26_2_24]
   refine cd (decide (v4 < (a0.Parts.length : Int))) (by simp [q, ld_26_2_24]) (fun hb6 => ?_) (fun hb6 => ?_)
   ·have h := cT hb6 h
    apply eY 4; simp [q, ld_26_2_24]
    refine gn (fun t H n => t 2 = .own b1 0 ∧ t 3 = .own b2 0 ∧ t 5 = .sc (.int .i64 v4) ∧ t 31 = .sc (.bool (decide (v4 < (a0.Parts.length : Int)))) ∧ H b1 = some (.cells (c26 a0) 26) ∧ b1 < n ∧ H b2 = some (.cells (c26 a1) 26) ∧ b2 < n ∧ b1 ≠ b2) (by simp [q, ld_26_2_24]) fun t H n q => ?_
    obtain ⟨n0, hn0⟩ : ∃ m, m = n := ⟨n, rfl⟩
    have ln0 : n0 ≤ n := Nat.le_of_eq hn0
    refine Stk.rgD [.rd [], .rd [b1], .rd [], .rd [], .rd [], .rd [], .rd [b2], .rd [], .rd [], .rd [], .rd [], .rd []] none (by kernel_rfl) (by rfl) rfl (by simp [below, hn0, q, hn0]) rfl ?_
    obtain ⟨x7, hx7, h⟩ := bnd h
    obtain ⟨i0x7, i1x7, i2x7, _⟩ := idx_ok hx7
    have ex7_0_26 : partOf T.T 26 (encs c26 a0.Parts) (v4.toNat * 3) = some (.agg (c26 x7)) := (part_elem0 (e := c26) (z := 3) (ty := 26) T.t26 (by decide) (by decide) hx7 0 (by decide)).trans (ld_26_0_26 _)
    obtain ⟨x8, hx8, h⟩ := bnd h
    obtain ⟨i0x8, i1x8, i2x8, _⟩ := idx_ok hx8
    have ex8_0_26 : partOf T.T 26 (encs c26 a1.Parts) (v4.toNat * 3) = some (.agg (c26 x8)) := (part_elem0 (e := c26) (z := 3) (ty := 26) T.t26 (by decide) (by decide) hx8 0 (by decide)).trans (ld_26_0_26 _)
    obtain ⟨x9, hx9, h⟩ := bnd h
    apply eY 10; simp [q, ld_26_2_24, i0x7, i1x7, pd26, ex7_0_26, i0x8, i1x8, ex8_0_26]
    refine cx (hρ84 _ _ _ hx9) rfl rfl (by simp [q, ld_26_2_24, i0x7, i1x7, pd26, ex7_0_26, i0x8, i1x8, ex8_0_26]) rfl rfl (by simp [q, ld_26_2_24, i0x7, i1x7, pd26, ex7_0_26, i0x8, i1x8, ex8_0_26]) (.cons (.free (fr26 _)) (.cons (.free (fr26 _)) (.nil))) rfl ?_
    rintro _ rfl
    apply eY 2; simp [q, ld_26_2_24, i0x7, i1x7, pd26, ex7_0_26, i0x8, i1x8, ex8_0_26]
    refine cd (!x9) (by simp [q, ld_26_2_24, i0x7, i1x7, pd26, ex7_0_26, i0x8, i1x8, ex8_0_26]) (fun hb10 => ?_) (fun hb10 => ?_)
    ·have h := cT hb10 h
     apply eY 5; simp [q, ld_26_2_24, i0x7, i1x7, pd26, ex7_0_26, i0x8, i1x8, ex8_0_26]
     obtain rfl := sj h
     exact (hF hr (by simp [q, ld_26_2_24, i0x7, i1x7, pd26, ex7_0_26, i0x8, i1x8, ex8_0_26]) rfl).1
    ·have h := cF hb10 h
     apply eY 7; simp [q, ld_26_2_24, i0x7, i1x7, pd26, ex7_0_26, i0x8, i1x8, ex8_0_26]
     exact lm (hJ1 _ _ _ _ ⟨(IntKind.i64.wrap (v4 + 1)), h, by simp [ln0, q, ld_26_2_24, i0x7, i1x7, pd26, ex7_0_26, i0x8, i1x8, ex8_0_26]⟩)
   ·have h := cF hb6 h
    refine Stk.ex rfl ?_
    apply eY 5; simp [q, ld_26_2_24]
    obtain rfl := sj h
    exact (hF hr (by simp [q, ld_26_2_24]) rfl).1
theorem okG_R04_SameType : ∀ F : Nat, (∀ (a0 : AType) (a1 : AType) (r : Bool), R04_SameType F a0 a1 = some r → RunF Tryz.prog T.T 84 [.agg (c26 a0), .agg (c26 a1)] (.sc (.bool r)))
  | 0 => (fun a0 a1 r h => by rw [R04_SameType] at h; cases h)
  | F + 1 => (fun a0 a1 r h => okB_R04_SameType F (R04_SameType F) (okG_R04_SameType F) a0 a1 r (by rw [R04_SameType] at h; exact h))
theorem ok_R04_SameType (F : Nat) (a0 : AType) (a1 : AType) (r : Bool) (h : R04_SameType F a0 a1 = some r) : RunF Tryz.prog T.T 84 [.agg (c26 a0), .agg (c26 a1)] (.sc (.bool r)) := (okG_R04_SameType F) a0 a1 r h
theorem okB_R04_SamePat (F : Nat) (ρ99 : APat → APat → Option Bool) (hρ99 : ∀ a0 a1 r, ρ99 a0 a1 = some r → RunF Tryz.prog T.T 99 [.agg (c39 a0), .agg (c39 a1)] (.sc (.bool r))) (a0 : APat) (a1 : APat) (r : Bool) (h : R04_SamePat_B F ρ99 a0 a1 = some r) : RunF Tryz.prog T.T 99 [.agg (c39 a0), .agg (c39 a1)] (.sc (.bool r)) := by
  rw [R04_SamePat_B] at h
  refine RunF.z Tryz.func99 rfl rfl rfl rfl rfl (fun C hr => ?_)
  refine gn (fun t H n => t 0 = .agg (c39 a0) ∧ t 1 = .agg (c39 a1)) ⟨by simp, by simp⟩ fun t H n q => ?_
  apply eY 2; simp [q]
  refine gn (fun t H n => t 0 = .agg (c39 a0) ∧ t 1 = .agg (c39 a1)) (by simp [q]) fun t H n q => ?_
  refine Stk.om (mop_box T.t39 (cs := c39 a0) (by show partOk (t 0) = true; rw [q.1]; rfl) (by show cellsOf (t 0) = _; rw [q.1]; rfl)) (by simp [q]) rfl (fun t' ht' => ?_)
  refine gn (fun t H n => ∃ b1, t 1 = .agg (c39 a1) ∧ t 2 = .own b1 0 ∧ H b1 = some (.cells (c39 a0) 39) ∧ b1 < n) ⟨n, j2 (by simp [ht', q]) ⟨upd_same _ _ _, Nat.lt_succ_self _⟩⟩ fun t H n ⟨b1, q⟩ => ?_
  refine Stk.om (mop_box T.t39 (cs := c39 a1) (by show partOk (t 1) = true; rw [q.1]; rfl) (by show cellsOf (t 1) = _; rw [q.1]; rfl)) (by simp [q]) rfl (fun t' ht' => ?_)
  refine gn (fun t H n => ∃ b2, t 2 = .own b1 0 ∧ t 3 = .own b2 0 ∧ H b1 = some (.cells (c39 a0) 39) ∧ b1 < n ∧ H b2 = some (.cells (c39 a1) 39) ∧ b2 < n ∧ b1 ≠ b2) ⟨n, j2 (by simp [ht', q]) ⟨(upd_ne _ _ (Nat.ne_of_lt q.2.2.2)).trans q.2.2.1, Nat.lt_succ_of_lt q.2.2.2, upd_same _ _ _, Nat.lt_succ_self _, Nat.ne_of_lt q.2.2.2⟩⟩ fun t H n ⟨b2, q⟩ => ?_
  apply eY 11; simp [q, ld_39_0_3]
  refine Stk.gd 6 11 17 (fun z => .sc (.bool (z || (!(a0.Name.toList == a1.Name.toList))))) (w := (a0.Kind != a1.Kind)) (by simp [q, ld_39_0_3]) (by simp [q, ld_39_0_3, ld_39_3_9]) (by simp [q, ld_39_0_3, ld_39_3_9]) ?_; simp [q, ld_39_0_3]
  apply eY 1; simp [q, ld_39_0_3]
  refine Stk.gd 6 18 24 (fun z => .sc (.bool (z || (a0.Num != a1.Num)))) (w := ((a0.Kind != a1.Kind) || (!(a0.Name.toList == a1.Name.toList)))) (by simp [q, ld_39_0_3]) (by simp [q, ld_39_0_3, ld_39_4_2]) (by simp [q, ld_39_0_3, ld_39_4_2]) ?_; simp [q, ld_39_0_3]
  apply eY 1; simp [q, ld_39_0_3]
  refine Stk.gd 8 25 33 (fun z => .sc (.bool (z || ((a0.Kids.length : Int) != (a1.Kids.length : Int))))) (w := (((a0.Kind != a1.Kind) || (!(a0.Name.toList == a1.Name.toList))) || (a0.Num != a1.Num))) (by simp [q, ld_39_0_3]) (by simp [q, ld_39_0_3, ld_39_5_37]) (by simp [q, ld_39_0_3, ld_39_5_37]) ?_; simp [q, ld_39_0_3]
  apply eY 1; simp [q, ld_39_0_3]
  refine cd ((((a0.Kind != a1.Kind) || (!(a0.Name.toList == a1.Name.toList))) || (a0.Num != a1.Num)) || ((a0.Kids.length : Int) != (a1.Kids.length : Int))) (by simp [q, ld_39_0_3]) (fun hb3 => ?_) (fun hb3 => ?_)
  ·have h := cT hb3 h
   apply eY 5; simp [q, ld_39_0_3]
   obtain rfl := sj h
   exact (hF hr (by simp [q, ld_39_0_3]) rfl).1
  ·have h := cF hb3 h
   apply eY 7; simp [q, ld_39_0_3]
   refine gn (fun t H n => t 2 = .own b1 0 ∧ t 3 = .own b2 0 ∧ t 5 = .sc (.int .i64 0) ∧ H b1 = some (.cells (c39 a0) 39) ∧ b1 < n ∧ H b2 = some (.cells (c39 a1) 39) ∧ b2 < n ∧ b1 ≠ b2) (by simp [q, ld_39_0_3]) fun t H n q => ?_
   refine Stk.lo (fun μ t H n => ∃ v4 : Int, R04_SamePat_L0 F ρ99 a0 a1 μ v4 = some r ∧ t 2 = .own b1 0 ∧ t 3 = .own b2 0 ∧ t 5 = .sc (.int .i64 v4) ∧ H b1 = some (.cells (c39 a0) 39) ∧ b1 < n ∧ H b2 = some (.cells (c39 a1) 39) ∧ b2 < n ∧ b1 ≠ b2) F ⟨0, h, q⟩ ?_
   clear q h
   rintro J1 hJ1 μ t H n ⟨v4, h, q⟩
   cases μ with
   | zero => exact absurd h (by simp [R04_SamePat_L0])
   | succ μ =>
   rw [R04_SamePat_L0] at h
   apply eY 9; simp [q, ld_39_5_37]
   refine cd (decide (v4 < (a0.Kids.length : Int))) (by simp [q, ld_39_5_37]) (fun hb6 => ?_) (fun hb6 => ?_)
   ·have h := cT hb6 h
    apply eY 4; simp [q, ld_39_5_37]
    refine gn (fun t H n => t 2 = .own b1 0 ∧ t 3 = .own b2 0 ∧ t 5 = .sc (.int .i64 v4) ∧ t 38 = .sc (.bool (decide (v4 < (a0.Kids.length : Int)))) ∧ H b1 = some (.cells (c39 a0) 39) ∧ b1 < n ∧ H b2 = some (.cells (c39 a1) 39) ∧ b2 < n ∧ b1 ≠ b2) (by simp [q, ld_39_5_37]) fun t H n q => ?_
    obtain ⟨n0, hn0⟩ : ∃ m, m = n := ⟨n, rfl⟩
    have ln0 : n0 ≤ n := Nat.le_of_eq hn0
    refine Stk.rgD [.rd [], .rd [b1], .rd [], .rd [], .rd [], .rd [], .rd [b2], .rd [], .rd [], .rd [], .rd [], .rd []] none (by kernel_rfl) (by rfl) rfl (by simp [below, hn0, q, hn0]) rfl ?_
    obtain ⟨x7, hx7, h⟩ := bnd h
    obtain ⟨i0x7, i1x7, i2x7, _⟩ := idx_ok hx7
    have ex7_0_39 : partOf T.T 39 (encs c39 a0.Kids) (v4.toNat * 6) = some (.agg (c39 x7)) := (part_elem0 (e := c39) (z := 6) (ty := 39) T.t39 (by decide) (by decide) hx7 0 (by decide)).trans (ld_39_0_39 _)
    obtain ⟨x8, hx8, h⟩ := bnd h
    obtain ⟨i0x8, i1x8, i2x8, _⟩ := idx_ok hx8
    have ex8_0_39 : partOf T.T 39 (encs c39 a1.Kids) (v4.toNat * 6) = some (.agg (c39 x8)) := (part_elem0 (e := c39) (z := 6) (ty := 39) T.t39 (by decide) (by decide) hx8 0 (by decide)).trans (ld_39_0_39 _)
    obtain ⟨x9, hx9, h⟩ := bnd h
    apply eY 10; simp [q, ld_39_5_37, i0x7, i1x7, pd39, ex7_0_39, i0x8, i1x8, ex8_0_39]
    refine cx (hρ99 _ _ _ hx9) rfl rfl (by simp [q, ld_39_5_37, i0x7, i1x7, pd39, ex7_0_39, i0x8, i1x8, ex8_0_39]) rfl rfl (by simp [q, ld_39_5_37, i0x7, i1x7, pd39, ex7_0_39, i0x8, i1x8, ex8_0_39]) (.cons (.free (fr39 _)) (.cons (.free (fr39 _)) (.nil))) rfl ?_
    rintro _ rfl
    apply eY 2; simp [q, ld_39_5_37, i0x7, i1x7, pd39, ex7_0_39, i0x8, i1x8, ex8_0_39]
    refine cd (!x9) (by simp [q, ld_39_5_37, i0x7, i1x7, pd39, ex7_0_39, i0x8, i1x8, ex8_0_39]) (fun hb10 => ?_) (fun hb10 => ?_)
    ·have h := cT hb10 h
     apply eY 5; simp [q, ld_39_5_37, i0x7, i1x7, pd39, ex7_0_39, i0x8, i1x8, ex8_0_39]
     obtain rfl := sj h
     exact (hF hr (by simp [q, ld_39_5_37, i0x7, i1x7, pd39, ex7_0_39, i0x8, i1x8, ex8_0_39]) rfl).1
    ·have h := cF hb10 h
     apply eY 7; simp [q, ld_39_5_37, i0x7, i1x7, pd39, ex7_0_39, i0x8, i1x8, ex8_0_39]
     exact lm (hJ1 _ _ _ _ ⟨(IntKind.i64.wrap (v4 + 1)), h, by simp [ln0, q, ld_39_5_37, i0x7, i1x7, pd39, ex7_0_39, i0x8, i1x8, ex8_0_39]⟩)
   ·have h := cF hb6 h
    refine Stk.ex rfl ?_
    apply eY 5; simp [q, ld_39_5_37]
    obtain rfl := sj h
    exact (hF hr (by simp [q, ld_39_5_37]) rfl).1
theorem okG_R04_SamePat : ∀ F : Nat, (∀ (a0 : APat) (a1 : APat) (r : Bool), R04_SamePat F a0 a1 = some r → RunF Tryz.prog T.T 99 [.agg (c39 a0), .agg (c39 a1)] (.sc (.bool r)))
  | 0 => (fun a0 a1 r h => by rw [R04_SamePat] at h; cases h)
  | F + 1 => (fun a0 a1 r h => okB_R04_SamePat F (R04_SamePat F) (okG_R04_SamePat F) a0 a1 r (by rw [R04_SamePat] at h; exact h))
theorem ok_R04_SamePat (F : Nat) (a0 : APat) (a1 : APat) (r : Bool) (h : R04_SamePat F a0 a1 = some r) : RunF Tryz.prog T.T 99 [.agg (c39 a0), .agg (c39 a1)] (.sc (.bool r)) := (okG_R04_SamePat F) a0 a1 r h
@[simp] abbrev Q5_2 (a0 : AExpr) (a1 : AExpr) (b1 : Nat) (b2 : Nat) (t : Nat → AV) (H : Mem) (n : Nat) : Prop := t 2 = .own b1 0 ∧ t 3 = .own b2 0 ∧ H b1 = some (.cells (c33 a0) 33) ∧ b1 < n ∧ H b2 = some (.cells (c33 a1) 33) ∧ b2 < n ∧ b1 ≠ b2
theorem okB_R04_SameExpr (F : Nat) (ρ36 : AExpr → AExpr → Option Bool) (hρ36 : ∀ a0 a1 r, ρ36 a0 a1 = some r → RunF Tryz.prog T.T 36 [.agg (c33 a0), .agg (c33 a1)] (.sc (.bool r))) (a0 : AExpr) (a1 : AExpr) (r : Bool) (h : R04_SameExpr_B F ρ36 a0 a1 = some r) : RunF Tryz.prog T.T 36 [.agg (c33 a0), .agg (c33 a1)] (.sc (.bool r)) := by
  rw [R04_SameExpr_B] at h
  refine RunF.z Tryz.func36 rfl rfl rfl rfl rfl (fun C hr => ?_)
  refine gn (fun t H n => t 0 = .agg (c33 a0) ∧ t 1 = .agg (c33 a1)) ⟨by simp, by simp⟩ fun t H n q => ?_
  apply eY 2; simp [q]
  refine gn (fun t H n => t 0 = .agg (c33 a0) ∧ t 1 = .agg (c33 a1)) (by simp [q]) fun t H n q => ?_
  refine Stk.om (mop_box T.t33 (cs := c33 a0) (by show partOk (t 0) = true; rw [q.1]; rfl) (by show cellsOf (t 0) = _; rw [q.1]; rfl)) (by simp [q]) rfl (fun t' ht' => ?_)
  refine gn (fun t H n => ∃ b1, t 1 = .agg (c33 a1) ∧ t 2 = .own b1 0 ∧ H b1 = some (.cells (c33 a0) 33) ∧ b1 < n) ⟨n, j2 (by simp [ht', q]) ⟨upd_same _ _ _, Nat.lt_succ_self _⟩⟩ fun t H n ⟨b1, q⟩ => ?_
  refine Stk.om (mop_box T.t33 (cs := c33 a1) (by show partOk (t 1) = true; rw [q.1]; rfl) (by show cellsOf (t 1) = _; rw [q.1]; rfl)) (by simp [q]) rfl (fun t' ht' => ?_)
  refine gn (fun t H n => ∃ b2, t 2 = .own b1 0 ∧ t 3 = .own b2 0 ∧ H b1 = some (.cells (c33 a0) 33) ∧ b1 < n ∧ H b2 = some (.cells (c33 a1) 33) ∧ b2 < n ∧ b1 ≠ b2) ⟨n, j2 (by simp [ht', q]) ⟨(upd_ne _ _ (Nat.ne_of_lt q.2.2.2)).trans q.2.2.1, Nat.lt_succ_of_lt q.2.2.2, upd_same _ _ _, Nat.lt_succ_self _, Nat.ne_of_lt q.2.2.2⟩⟩ fun t H n ⟨b2, q⟩ => ?_
  apply eY 11; simp [q, ld_33_0_3]
  refine Stk.gd 6 12 18 (fun z => .sc (.bool (z || (a0.Num != a1.Num)))) (w := (a0.Kind != a1.Kind)) (by simp [q, ld_33_0_3]) (by simp [q, ld_33_0_3, ld_33_3_2]) (by simp [q, ld_33_0_3, ld_33_3_2]) ?_; simp [q, ld_33_0_3]
  apply eY 1; simp [q, ld_33_0_3]
  refine gn (fun t H n => Q5_2 a0 a1 b1 b2 t H n ∧ t 19 = .sc (.bool ((a0.Kind != a1.Kind) || (a0.Num != a1.Num)))) (by simp [q, ld_33_0_3]) fun t H n q => ?_
  refine Stk.jo 8 (fun t H n => t 2 = .own b1 0 ∧ t 3 = .own b2 0 ∧ t 27 = .sc (.bool (((a0.Kind != a1.Kind) || (a0.Num != a1.Num)) || (!((textOf a0.Bytes).toList == (textOf a1.Bytes).toList)))) ∧ H b1 = some (.cells (c33 a0) 33) ∧ b1 < n ∧ H b2 = some (.cells (c33 a1) 33) ∧ b2 < n ∧ b1 ≠ b2) (fun J1 hJ1 => ?_) ?_
  · rcases Bool.eq_false_or_eq_true ((a0.Kind != a1.Kind) || (a0.Num != a1.Num)) with hb1 | hb1
    · obtain ⟨⟨f2, f3, b_b1, l_b1, b_b2, l_b2, d_b1_b2⟩, f19⟩ := q
      rw [hb1] at f19
      apply eY 9; simp [f2, f3, f19, b_b1, b_b2]
      refine gn (fun t H n => Q5_2 a0 a1 b1 b2 t H n ∧ t 27 = .sc (.bool true)) (by simp [f2, f3, f19, b_b1, b_b2, l_b1, l_b2, d_b1_b2]) fun t H n q => ?_
      exact l0 (hJ1 _ _ _ ⟨q.1.1, q.1.2.1, q.2.trans (congrArg (fun q => AV.sc (.bool q)) (by rw [hb1]; rfl)), q.1.2.2.1, q.1.2.2.2.1, q.1.2.2.2.2.1, q.1.2.2.2.2.2.1, q.1.2.2.2.2.2.2⟩)
    · obtain ⟨⟨f2, f3, b_b1, l_b1, b_b2, l_b2, d_b1_b2⟩, f19⟩ := q
      rw [hb1] at f19
      apply eY 2; simp [f2, f3, f19, b_b1, b_b2, ld_33_4_29]
      refine gn (fun t H n => Q5_2 a0 a1 b1 b2 t H n ∧ t 19 = .sc (.bool false) ∧ t 21 = .ssl (encs c5 a0.Bytes) a0.Bytes.length false) (by simp [f2, f3, f19, b_b1, b_b2, ld_33_4_29, l_b1, l_b2, d_b1_b2]) fun t H n q => ?_
      refine Stk.ov (vop_text (c := c5) (fun _ => rfl) T.t29 rfl T.t9 rfl rfl q.2.2) (by simp [q]) rfl (fun t' ht' => ?_)
      refine gn (fun t H n => Q5_2 a0 a1 b1 b2 t H n ∧ t 19 = .sc (.bool false) ∧ t 22 = .sc (.string (textOf a0.Bytes))) (by simp [ht', q]) fun t H n q => ?_
      apply eY 2; simp [q, ld_33_4_29]
      refine gn (fun t H n => Q5_2 a0 a1 b1 b2 t H n ∧ t 19 = .sc (.bool false) ∧ t 22 = .sc (.string (textOf a0.Bytes)) ∧ t 24 = .ssl (encs c5 a1.Bytes) a1.Bytes.length false) (by simp [q, ld_33_4_29]) fun t H n q => ?_
      refine Stk.ov (vop_text (c := c5) (fun _ => rfl) T.t29 rfl T.t9 rfl rfl q.2.2.2) (by simp [q]) rfl (fun t' ht' => ?_)
      refine gn (fun t H n => Q5_2 a0 a1 b1 b2 t H n ∧ t 19 = .sc (.bool false) ∧ t 22 = .sc (.string (textOf a0.Bytes)) ∧ t 25 = .sc (.string (textOf a1.Bytes))) (by simp [ht', q]) fun t H n q => ?_
      apply eY 3; simp [q]
      refine gn (fun t H n => Q5_2 a0 a1 b1 b2 t H n ∧ t 27 = .sc (.bool (!((textOf a0.Bytes).toList == (textOf a1.Bytes).toList)))) (by simp [q]) fun t H n q => ?_
      exact l0 (hJ1 _ _ _ ⟨q.1.1, q.1.2.1, q.2.trans (congrArg (fun q => AV.sc (.bool q)) (by rw [hb1]; rfl)), q.1.2.2.1, q.1.2.2.2.1, q.1.2.2.2.2.1, q.1.2.2.2.2.2.1, q.1.2.2.2.2.2.2⟩)
  clear q
  rintro t H n q
  apply eY 1; simp [q]
  refine Stk.gd 6 28 34 (fun z => .sc (.bool (z || (!(a0.Name.toList == a1.Name.toList))))) (w := (((a0.Kind != a1.Kind) || (a0.Num != a1.Num)) || (!((textOf a0.Bytes).toList == (textOf a1.Bytes).toList)))) (by simp [q]) (by simp [q, ld_33_5_9]) (by simp [q, ld_33_5_9]) ?_; simp [q]
  apply eY 1; simp [q]
  refine Stk.gd 8 35 43 (fun z => .sc (.bool (z || ((a0.Kids.length : Int) != (a1.Kids.length : Int))))) (w := ((((a0.Kind != a1.Kind) || (a0.Num != a1.Num)) || (!((textOf a0.Bytes).toList == (textOf a1.Bytes).toList))) || (!(a0.Name.toList == a1.Name.toList)))) (by simp [q]) (by simp [q, ld_33_6_30]) (by simp [q, ld_33_6_30]) ?_; simp [q]
  apply eY 1; simp [q]
  refine Stk.gd 8 44 52 (fun z => .sc (.bool (z || ((a0.Arms.length : Int) != (a1.Arms.length : Int))))) (w := (((((a0.Kind != a1.Kind) || (a0.Num != a1.Num)) || (!((textOf a0.Bytes).toList == (textOf a1.Bytes).toList))) || (!(a0.Name.toList == a1.Name.toList))) || ((a0.Kids.length : Int) != (a1.Kids.length : Int)))) (by simp [q]) (by simp [q, ld_33_7_31]) (by simp [q, ld_33_7_31]) ?_; simp [q]
  apply eY 1; simp [q]
  refine cd ((((((a0.Kind != a1.Kind) || (a0.Num != a1.Num)) || (!((textOf a0.Bytes).toList == (textOf a1.Bytes).toList))) || (!(a0.Name.toList == a1.Name.toList))) || ((a0.Kids.length : Int) != (a1.Kids.length : Int))) || ((a0.Arms.length : Int) != (a1.Arms.length : Int))) (by simp [q]) (fun hb3 => ?_) (fun hb3 => ?_)
  ·have h := cT hb3 h
   apply eY 5; simp [q]
   obtain rfl := sj h
   exact (hF hr (by simp [q]) rfl).1
  ·have h := cF hb3 h
   apply eY 6; simp [q]
   obtain ⟨K2, hK2, h⟩ := jnd h
   refine Stk.jn (fun t H n => K2 () = some r ∧ t 2 = .own b1 0 ∧ t 3 = .own b2 0 ∧ H b1 = some (.cells (c33 a0) 33) ∧ b1 < n ∧ H b2 = some (.cells (c33 a1) 33) ∧ b2 < n ∧ b1 ≠ b2) trivial (fun J2 hJ2 => ?_) ?_
   · skip
     apply eY 1; simp [q]
     refine gn (fun t H n => Q5_2 a0 a1 b1 b2 t H n ∧ t 5 = .sc (.int .i64 0)) (by simp [q]) fun t H n q => ?_
     refine Stk.lo (fun μ t H n => ∃ v4 : Int, R04_SameExpr_L0 F ρ36 a0 a1 K2 μ v4 = some r ∧ t 2 = .own b1 0 ∧ t 3 = .own b2 0 ∧ t 5 = .sc (.int .i64 v4) ∧ H b1 = some (.cells (c33 a0) 33) ∧ b1 < n ∧ H b2 = some (.cells (c33 a1) 33) ∧ b2 < n ∧ b1 ≠ b2) F ⟨0, h, q.1.1, q.1.2.1, q.2, q.1.2.2.1, q.1.2.2.2.1, q.1.2.2.2.2.1, q.1.2.2.2.2.2.1, q.1.2.2.2.2.2.2⟩ ?_
     clear q h
     rintro J3 hJ3 μ t H n ⟨v4, h, q⟩
     cases μ with
     | zero => exact absurd h (by simp [R04_SameExpr_L0])
     | succ μ =>
     rw [R04_SameExpr_L0] at h
     apply eY 9; simp [q, ld_33_6_30]
     refine cd (decide (v4 < (a0.Kids.length : Int))) (by simp [q, ld_33_6_30]) (fun hb6 => ?_) (fun hb6 => ?_)
     ·have h := cT hb6 h
      apply eY 4; simp [q, ld_33_6_30]
      refine gn (fun t H n => Q5_2 a0 a1 b1 b2 t H n ∧ t 5 = .sc (.int .i64 v4) ∧ t 57 = .sc (.bool (decide (v4 < (a0.Kids.length : Int))))) (by simp [q, ld_33_6_30]) fun t H n q => ?_
      obtain ⟨n0, hn0⟩ : ∃ m, m = n := ⟨n, rfl⟩
      have ln0 : n0 ≤ n := Nat.le_of_eq hn0
      refine Stk.rgD [.rd [], .rd [b1], .rd [], .rd [], .rd [], .rd [], .rd [b2], .rd [], .rd [], .rd [], .rd [], .rd []] none (by kernel_rfl) (by rfl) rfl (by simp [below, hn0, q, hn0]) rfl ?_
      obtain ⟨x7, hx7, h⟩ := bnd h
      obtain ⟨i0x7, i1x7, i2x7, _⟩ := idx_ok hx7
      have ex7_0_33 : partOf T.T 33 (encs c33 a0.Kids) (v4.toNat * 8) = some (.agg (c33 x7)) := (part_elem0 (e := c33) (z := 8) (ty := 33) T.t33 (by decide) (by decide) hx7 0 (by decide)).trans (ld_33_0_33 _)
      obtain ⟨x8, hx8, h⟩ := bnd h
      obtain ⟨i0x8, i1x8, i2x8, _⟩ := idx_ok hx8
      have ex8_0_33 : partOf T.T 33 (encs c33 a1.Kids) (v4.toNat * 8) = some (.agg (c33 x8)) := (part_elem0 (e := c33) (z := 8) (ty := 33) T.t33 (by decide) (by decide) hx8 0 (by decide)).trans (ld_33_0_33 _)
      obtain ⟨x9, hx9, h⟩ := bnd h
      apply eY 10; simp [q, ld_33_6_30, i0x7, i1x7, pd33, ex7_0_33, i0x8, i1x8, ex8_0_33]
      refine cx (hρ36 _ _ _ hx9) rfl rfl (by simp [q, ld_33_6_30, i0x7, i1x7, pd33, ex7_0_33, i0x8, i1x8, ex8_0_33]) rfl rfl (by simp [q, ld_33_6_30, i0x7, i1x7, pd33, ex7_0_33, i0x8, i1x8, ex8_0_33]) (.cons (.free (fr33 _)) (.cons (.free (fr33 _)) (.nil))) rfl ?_
      rintro _ rfl
      apply eY 2; simp [q, ld_33_6_30, i0x7, i1x7, pd33, ex7_0_33, i0x8, i1x8, ex8_0_33]
      refine cd (!x9) (by simp [q, ld_33_6_30, i0x7, i1x7, pd33, ex7_0_33, i0x8, i1x8, ex8_0_33]) (fun hb10 => ?_) (fun hb10 => ?_)
      ·have h := cT hb10 h
       apply eY 5; simp [q, ld_33_6_30, i0x7, i1x7, pd33, ex7_0_33, i0x8, i1x8, ex8_0_33]
       obtain rfl := sj h
       exact (hF hr (by simp [q, ld_33_6_30, i0x7, i1x7, pd33, ex7_0_33, i0x8, i1x8, ex8_0_33]) rfl).1
      ·have h := cF hb10 h
       apply eY 7; simp [q, ld_33_6_30, i0x7, i1x7, pd33, ex7_0_33, i0x8, i1x8, ex8_0_33]
       exact lm (hJ3 _ _ _ _ ⟨(IntKind.i64.wrap (v4 + 1)), h, by simp [ln0, q, ld_33_6_30, i0x7, i1x7, pd33, ex7_0_33, i0x8, i1x8, ex8_0_33]⟩)
     ·have h := cF hb6 h
      refine Stk.ex rfl ?_
      exact l0 (hJ2 _ _ _ ⟨h, by simp [q, ld_33_6_30]⟩)
   clear q h
   rintro t H n ⟨h, q⟩
   subst hK2
   apply eY 6; simp [q]
   refine gn (fun t H n => Q5_2 a0 a1 b1 b2 t H n ∧ t 6 = .sc (.int .i64 0)) (by simp [q]) fun t H n q => ?_
   refine Stk.lo (fun μ t H n => ∃ v11 : Int, R04_SameExpr_L1 F ρ36 a0 a1 μ v11 = some r ∧ t 2 = .own b1 0 ∧ t 3 = .own b2 0 ∧ t 6 = .sc (.int .i64 v11) ∧ H b1 = some (.cells (c33 a0) 33) ∧ b1 < n ∧ H b2 = some (.cells (c33 a1) 33) ∧ b2 < n ∧ b1 ≠ b2) F ⟨0, h, q.1.1, q.1.2.1, q.2, q.1.2.2.1, q.1.2.2.2.1, q.1.2.2.2.2.1, q.1.2.2.2.2.2.1, q.1.2.2.2.2.2.2⟩ ?_
   clear q h
   rintro J4 hJ4 μ t H n ⟨v11, h, q⟩
   cases μ with
   | zero => exact absurd h (by simp [R04_SameExpr_L1])
   | succ μ =>
   rw [R04_SameExpr_L1] at h
   apply eY 9; simp [q, ld_33_7_31]
   refine cd (decide (v11 < (a0.Arms.length : Int))) (by simp [q, ld_33_7_31]) (fun hb13 => ?_) (fun hb13 => ?_)
   ·have h := cT hb13 h
    apply eY 4; simp [q, ld_33_7_31]
    refine gn (fun t H n => Q5_2 a0 a1 b1 b2 t H n ∧ t 6 = .sc (.int .i64 v11) ∧ t 76 = .sc (.bool (decide (v11 < (a0.Arms.length : Int))))) (by simp [q, ld_33_7_31]) fun t H n q => ?_
    obtain ⟨n0, hn0⟩ : ∃ m, m = n := ⟨n, rfl⟩
    have ln0 : n0 ≤ n := Nat.le_of_eq hn0
    refine Stk.rgD [.rd [], .rd [b1], .rd [], .rd [], .rd [], .rd [], .rd [], .rd [b2], .rd [], .rd [], .rd [], .rd [], .rd [], .rd [], .rd [], .rd [], .rd [b1], .rd [], .rd [], .rd [], .rd [], .rd [], .rd [b2], .rd [], .rd [], .rd [], .rd [], .rd [], .rd [], .rd []] none (by kernel_rfl) (by rfl) rfl (by simp [below, hn0, q, hn0]) rfl ?_
    obtain ⟨x14, hx14, h⟩ := bnd h
    obtain ⟨i0x14, i1x14, i2x14, _⟩ := idx_ok hx14
    have ex14_0_39 : partOf T.T 39 (encs c68 a0.Arms) (v11.toNat * 14) = some (.agg (c39 x14.Pat)) := (part_elem0 (e := c68) (z := 14) (ty := 39) T.t39 (by decide) (by decide) hx14 0 (by decide)).trans (ld_68_0_39 _)
    obtain ⟨x15, hx15, h⟩ := bnd h
    obtain ⟨i0x15, i1x15, i2x15, _⟩ := idx_ok hx15
    have ex15_0_39 : partOf T.T 39 (encs c68 a1.Arms) (v11.toNat * 14) = some (.agg (c39 x15.Pat)) := (part_elem0 (e := c68) (z := 14) (ty := 39) T.t39 (by decide) (by decide) hx15 0 (by decide)).trans (ld_68_0_39 _)
    obtain ⟨x16, hx16, h⟩ := bnd h
    apply eY 12; simp [q, ld_33_7_31, i0x14, i1x14, pd39, ex14_0_39, i0x15, i1x15, ex15_0_39]
    refine cx (ok_R04_SamePat F _ _ _ hx16) rfl rfl (by simp [q, ld_33_7_31, i0x14, i1x14, pd39, ex14_0_39, i0x15, i1x15, ex15_0_39]) rfl rfl (by simp [q, ld_33_7_31, i0x14, i1x14, pd39, ex14_0_39, i0x15, i1x15, ex15_0_39]) (.cons (.free (fr39 _)) (.cons (.free (fr39 _)) (.nil))) rfl ?_
    rintro _ rfl
    apply eY 2; simp [q, ld_33_7_31, i0x14, i1x14, pd39, ex14_0_39, i0x15, i1x15, ex15_0_39]
    refine gn (fun t H n => Q5_2 a0 a1 b1 b2 t H n ∧ t 6 = .sc (.int .i64 v11) ∧ t 93 = .sc (.bool (!x16)) ∧ n0 ≤ n) (by simp [q, ld_33_7_31, i0x14, i1x14, pd39, ex14_0_39, i0x15, i1x15, ex15_0_39, ln0]) fun t H n q => ?_
    obtain ⟨K5, hK5, h⟩ := jnd h
    refine Stk.jd 15 (fun t H n => ∃ v17 : Bool, K5 v17 = some r ∧ t 2 = .own b1 0 ∧ t 3 = .own b2 0 ∧ t 6 = .sc (.int .i64 v11) ∧ t 108 = .sc (.bool v17) ∧ H b1 = some (.cells (c33 a0) 33) ∧ b1 < n ∧ H b2 = some (.cells (c33 a1) 33) ∧ b2 < n ∧ b1 ≠ b2) (fun J5 hJ5 => ?_) ?_
    · rcases Bool.eq_false_or_eq_true (!x16) with hb5 | hb5
      · obtain ⟨⟨f2, f3, b_b1, l_b1, b_b2, l_b2, d_b1_b2⟩, f6, f93, ln0⟩ := q
        rw [hb5] at f93
        replace h := cT hb5 h
        apply eY 16; simp [f2, f3, f6, f93, b_b1, b_b2]
        exact l0 (hJ5 _ _ _ ⟨true, h, by and_intros <;> first | assumption | simp [f2, f3, f6, f93, b_b1, b_b2]⟩)
      · obtain ⟨⟨f2, f3, b_b1, l_b1, b_b2, l_b2, d_b1_b2⟩, f6, f93, ln0⟩ := q
        rw [hb5] at f93
        replace h := cF hb5 h
        obtain ⟨x18, hx18, h⟩ := bnd h
        obtain ⟨i0x18, i1x18, i2x18, _⟩ := idx_ok hx18
        have ex18_6_33 : partOf T.T 33 (encs c68 a0.Arms) (v11.toNat * 14 + 6) = some (.agg (c33 x18.Body)) := (part_elem0 (e := c68) (z := 14) (ty := 33) T.t33 (by decide) (by decide) hx18 6 (by decide)).trans (ld_68_6_33 _)
        obtain ⟨x19, hx19, h⟩ := bnd h
        obtain ⟨i0x19, i1x19, i2x19, _⟩ := idx_ok hx19
        have ex19_6_33 : partOf T.T 33 (encs c68 a1.Arms) (v11.toNat * 14 + 6) = some (.agg (c33 x19.Body)) := (part_elem0 (e := c68) (z := 14) (ty := 33) T.t33 (by decide) (by decide) hx19 6 (by decide)).trans (ld_68_6_33 _)
        obtain ⟨x20, hx20, h⟩ := bnd h
        apply eY 12; simp [f2, f3, f6, f93, b_b1, b_b2, ld_33_7_31, i0x18, i1x18, pd33, ex18_6_33, i0x19, i1x19, ex19_6_33]
        refine cx (hρ36 _ _ _ hx20) rfl rfl (by simp [f2, f3, f6, f93, b_b1, b_b2, ld_33_7_31, i0x18, i1x18, pd33, ex18_6_33, i0x19, i1x19, ex19_6_33]) rfl rfl (by simp [f2, f3, f6, f93, b_b1, b_b2, ld_33_7_31, i0x18, i1x18, pd33, ex18_6_33, i0x19, i1x19, ex19_6_33]) (.cons (.free (fr33 _)) (.cons (.free (fr33 _)) (.nil))) rfl ?_
        rintro _ rfl
        apply eY 3; simp [f2, f3, f6, f93, b_b1, b_b2, ld_33_7_31, i0x18, i1x18, pd33, ex18_6_33, i0x19, i1x19, ex19_6_33]
        exact l0 (hJ5 _ _ _ ⟨(!x20), h, by and_intros <;> first | assumption | simp [f2, f3, f6, f93, b_b1, b_b2, ld_33_7_31, i0x18, i1x18, pd33, ex18_6_33, i0x19, i1x19, ex19_6_33]⟩)
    clear q h
    rintro t H n ⟨v17, h, q⟩
    subst hK5
    apply eY 1; simp [q]
    refine cd v17 (by simp [q]) (fun hb21 => ?_) (fun hb21 => ?_)
    ·have h := cT hb21 h
     apply eY 5; simp [q]
     obtain rfl := sj h
     exact (hF hr (by simp [q]) rfl).1
    ·have h := cF hb21 h
     apply eY 7; simp [q]
     exact lm (hJ4 _ _ _ _ ⟨(IntKind.i64.wrap (v11 + 1)), h, by simp [q]⟩)
   ·have h := cF hb13 h
    refine Stk.ex rfl ?_
    apply eY 5; simp [q, ld_33_7_31]
    obtain rfl := sj h
    exact (hF hr (by simp [q, ld_33_7_31]) rfl).1
theorem okG_R04_SameExpr : ∀ F : Nat, (∀ (a0 : AExpr) (a1 : AExpr) (r : Bool), R04_SameExpr F a0 a1 = some r → RunF Tryz.prog T.T 36 [.agg (c33 a0), .agg (c33 a1)] (.sc (.bool r)))
  | 0 => (fun a0 a1 r h => by rw [R04_SameExpr] at h; cases h)
  | F + 1 => (fun a0 a1 r h => okB_R04_SameExpr F (R04_SameExpr F) (okG_R04_SameExpr F) a0 a1 r (by rw [R04_SameExpr] at h; exact h))
theorem ok_R04_SameExpr (F : Nat) (a0 : AExpr) (a1 : AExpr) (r : Bool) (h : R04_SameExpr F a0 a1 = some r) : RunF Tryz.prog T.T 36 [.agg (c33 a0), .agg (c33 a1)] (.sc (.bool r)) := (okG_R04_SameExpr F) a0 a1 r h
@[simp] abbrev Q5_3 (a0 : AData) (a1 : AData) (b1 : Nat) (b2 : Nat) (t : Nat → AV) (H : Mem) (n : Nat) : Prop := t 2 = .own b1 0 ∧ t 3 = .own b2 0 ∧ H b1 = some (.cells (c72 a0) 72) ∧ b1 < n ∧ H b2 = some (.cells (c72 a1) 72) ∧ b2 < n ∧ b1 ≠ b2
theorem ok_R04_sameData (F : Nat) (a0 : AData) (a1 : AData) (r : Bool) (h : R04_sameData F a0 a1 = some r) : RunF Tryz.prog T.T 85 [.agg (c72 a0), .agg (c72 a1)] (.sc (.bool r)) := by
  rw [R04_sameData] at h
  refine RunF.z Tryz.func85 rfl rfl rfl rfl rfl (fun C hr => ?_)
  refine gn (fun t H n => t 0 = .agg (c72 a0) ∧ t 1 = .agg (c72 a1)) ⟨by simp, by simp⟩ fun t H n q => ?_
  apply eY 2; simp [q]
  refine gn (fun t H n => t 0 = .agg (c72 a0) ∧ t 1 = .agg (c72 a1)) (by simp [q]) fun t H n q => ?_
  refine Stk.om (mop_box T.t72 (cs := c72 a0) (by show partOk (t 0) = true; rw [q.1]; rfl) (by show cellsOf (t 0) = _; rw [q.1]; rfl)) (by simp [q]) rfl (fun t' ht' => ?_)
  refine gn (fun t H n => ∃ b1, t 1 = .agg (c72 a1) ∧ t 2 = .own b1 0 ∧ H b1 = some (.cells (c72 a0) 72) ∧ b1 < n) ⟨n, j2 (by simp [ht', q]) ⟨upd_same _ _ _, Nat.lt_succ_self _⟩⟩ fun t H n ⟨b1, q⟩ => ?_
  refine Stk.om (mop_box T.t72 (cs := c72 a1) (by show partOk (t 1) = true; rw [q.1]; rfl) (by show cellsOf (t 1) = _; rw [q.1]; rfl)) (by simp [q]) rfl (fun t' ht' => ?_)
  refine gn (fun t H n => ∃ b2, t 2 = .own b1 0 ∧ t 3 = .own b2 0 ∧ H b1 = some (.cells (c72 a0) 72) ∧ b1 < n ∧ H b2 = some (.cells (c72 a1) 72) ∧ b2 < n ∧ b1 ≠ b2) ⟨n, j2 (by simp [ht', q]) ⟨(upd_ne _ _ (Nat.ne_of_lt q.2.2.2)).trans q.2.2.1, Nat.lt_succ_of_lt q.2.2.2, upd_same _ _ _, Nat.lt_succ_self _, Nat.ne_of_lt q.2.2.2⟩⟩ fun t H n ⟨b2, q⟩ => ?_
  apply eY 11; simp [q, ld_72_2_9]
  refine Stk.gd 8 13 21 (fun z => .sc (.bool (z || ((a0.Cons.length : Int) != (a1.Cons.length : Int))))) (w := (!(a0.Name.toList == a1.Name.toList))) (by simp [q, ld_72_2_9]) (by simp [q, ld_72_2_9, ld_72_3_70]) (by simp [q, ld_72_2_9, ld_72_3_70]) ?_; simp [q, ld_72_2_9]
  apply eY 1; simp [q, ld_72_2_9]
  refine cd ((!(a0.Name.toList == a1.Name.toList)) || ((a0.Cons.length : Int) != (a1.Cons.length : Int))) (by simp [q, ld_72_2_9]) (fun hb3 => ?_) (fun hb3 => ?_)
  ·have h := cT hb3 h
   apply eY 5; simp [q, ld_72_2_9]
   obtain rfl := sj h
   exact (hF hr (by simp [q, ld_72_2_9]) rfl).1
  ·have h := cF hb3 h
   apply eY 7; simp [q, ld_72_2_9]
   refine gn (fun t H n => Q5_3 a0 a1 b1 b2 t H n ∧ t 5 = .sc (.int .i64 0)) (by simp [q, ld_72_2_9]) fun t H n q => ?_
   refine Stk.lo (fun μ t H n => ∃ v4 : Int, R04_sameData_L0 F a0 a1 μ v4 = some r ∧ t 2 = .own b1 0 ∧ t 3 = .own b2 0 ∧ t 5 = .sc (.int .i64 v4) ∧ H b1 = some (.cells (c72 a0) 72) ∧ b1 < n ∧ H b2 = some (.cells (c72 a1) 72) ∧ b2 < n ∧ b1 ≠ b2) F ⟨0, h, q.1.1, q.1.2.1, q.2, q.1.2.2.1, q.1.2.2.2.1, q.1.2.2.2.2.1, q.1.2.2.2.2.2.1, q.1.2.2.2.2.2.2⟩ ?_
   clear q h
   rintro J1 hJ1 μ t H n ⟨v4, h, q⟩
   cases μ with
   | zero => exact absurd h (by simp [R04_sameData_L0])
   | succ μ =>
   rw [R04_sameData_L0] at h
   apply eY 9; simp [q, ld_72_3_70]
   refine cd (decide (v4 < (a0.Cons.length : Int))) (by simp [q, ld_72_3_70]) (fun hb6 => ?_) (fun hb6 => ?_)
   ·have h := cT hb6 h
    apply eY 4; simp [q, ld_72_3_70]
    refine gn (fun t H n => Q5_3 a0 a1 b1 b2 t H n ∧ t 5 = .sc (.int .i64 v4) ∧ t 26 = .sc (.bool (decide (v4 < (a0.Cons.length : Int))))) (by simp [q, ld_72_3_70]) fun t H n q => ?_
    obtain ⟨n0, hn0⟩ : ∃ m, m = n := ⟨n, rfl⟩
    have ln0 : n0 ≤ n := Nat.le_of_eq hn0
    refine Stk.rgD [.rd [], .rd [b1], .rd [], .rd [], .rd [], .rd [], .rd [], .rd [b1], .rd [], .rd [], .rd [], .rd [], .rd [], .mem [] n0, .mem [] n0] none (by kernel_rfl) (by rfl) rfl (by simp [below, hn0, q, hn0]) rfl ?_
    obtain ⟨x7, hx7, h⟩ := bnd h
    obtain ⟨i0x7, i1x7, i2x7, _⟩ := idx_ok hx7
    have ex7_0_9 : partOf T.T 9 (encs c92 a0.Cons) (v4.toNat * 2) = some (.sc (.string x7.Name)) := (part_elem0 (e := c92) (z := 2) (ty := 9) T.t9 (by decide) (by decide) hx7 0 (by decide)).trans (ld_92_0_9 _)
    have ex7_1_24 : partOf T.T 24 (encs c92 a0.Cons) (v4.toNat * 2 + 1) = some (.ssl (encs c26 x7.Fields) x7.Fields.length false) := (part_elem0 (e := c92) (z := 2) (ty := 24) T.t24 (by decide) (by decide) hx7 1 (by decide)).trans (ld_92_1_24 _)
    apply eY 12; simp [q, ld_72_3_70, i0x7, i1x7, pd9, ex7_0_9, pd24, ex7_1_24]
    refine gn (fun t H n => Q5_3 a0 a1 b1 b2 t H n ∧ t 5 = .sc (.int .i64 v4) ∧ t 34 = .sc (.string x7.Name) ∧ t 40 = .ssl (encs c26 x7.Fields) x7.Fields.length false ∧ n0 ≤ n) (by simp [q, ld_72_3_70, i0x7, i1x7, pd9, ex7_0_9, pd24, ex7_1_24, ln0]) fun t H n q => ?_
    refine Stk.ovD rfl (by simp [q]) rfl (vop_build T.t26 rfl rfl (cs := c26 (AType.mk 0 ⟨#[]⟩ [])) (cs' := c26 (AType.mk 0 x7.Name x7.Fields)) rfl (.cons q.2.2.1 rfl rfl rfl rfl (rfl) (by rw [len26]; decide) (st_26_1_9 _ _) (.cons q.2.2.2.1 rfl rfl rfl rfl (rfl) (by rw [len26]; decide) (st_26_2_24 _ _) (.nil)))) (by simp [q]) rfl (fun t' ht' => ?_)
    refine gn (fun t H n => Q5_3 a0 a1 b1 b2 t H n ∧ t 5 = .sc (.int .i64 v4) ∧ t 41 = .agg (c26 (AType.mk 0 x7.Name x7.Fields)) ∧ n0 ≤ n) (by simp [ht', q]) fun t H n q => ?_
    refine Stk.omD (S := []) (b := n0) rfl (fun j hj _ => upd_ne _ _ (by omega)) rfl (mop_alloc T.t26 (cs := T.i26.zero.map AV.sc) rfl) (by simp [q]) rfl (fun t' ht' => ?_)
    refine gn (fun t H n => ∃ b8, Q5_3 a0 a1 b1 b2 t H n ∧ t 5 = .sc (.int .i64 v4) ∧ t 6 = .own b8 0 ∧ t 41 = .agg (c26 (AType.mk 0 x7.Name x7.Fields)) ∧ H b8 = some (.cells (T.i26.zero.map AV.sc) 26) ∧ b8 < n ∧ n0 ≤ b8 ∧ b1 ≠ b8 ∧ b2 ≠ b8 ∧ n0 ≤ n) ⟨n, ⟨by simp [ht', q], by simp [ht', q], (upd_ne _ _ (Nat.ne_of_lt q.1.2.2.2.1)).trans q.1.2.2.1, Nat.lt_succ_of_lt q.1.2.2.2.1, (upd_ne _ _ (Nat.ne_of_lt q.1.2.2.2.2.2.1)).trans q.1.2.2.2.2.1, Nat.lt_succ_of_lt q.1.2.2.2.2.2.1, q.1.2.2.2.2.2.2⟩, j3 (by simp [ht', q]) ⟨upd_same _ _ _, Nat.lt_succ_self _, q.2.2.2, Nat.ne_of_lt q.1.2.2.2.1, Nat.ne_of_lt q.1.2.2.2.2.2.1, Nat.le_succ_of_le q.2.2.2⟩⟩ fun t H n ⟨b8, ⟨f2, f3, b_b1, l_b1, b_b2, l_b2, d_b1_b2⟩, f5, f6, f41, b_b8, l_b8, z_b8, d_b1_b8, d_b2_b8, ln0⟩ => ?_
    refine Stk.omD (S := []) (b := n0) rfl (fun j hj _ => upd_ne _ _ (by have := z_b8; omega)) rfl (mop_store (z := 3) rfl f6 b_b8 f41 (len26 _) (by first | decide | simp) (ok26 _) (splice_all (Eq.trans (b := 3) rfl (len26 _).symm))) (by simp [f2, f3, f5, f6, f41]) rfl (fun t' ht' => ?_)
    refine gn (fun t H n => Q5_3 a0 a1 b1 b2 t H n ∧ t 5 = .sc (.int .i64 v4) ∧ t 6 = .own b8 0 ∧ H b8 = some (.cells (c26 (AType.mk 0 x7.Name x7.Fields)) 26) ∧ b8 < n ∧ n0 ≤ b8 ∧ b1 ≠ b8 ∧ b2 ≠ b8 ∧ n0 ≤ n) ⟨⟨by simp [ht', f2], by simp [ht', f3], (upd_ne _ _ d_b1_b8).trans b_b1, l_b1, (upd_ne _ _ d_b2_b8).trans b_b2, l_b2, d_b1_b2⟩, j2 (by simp [ht', f5, f6]) ⟨upd_same _ _ _, l_b8, z_b8, d_b1_b8, d_b2_b8, ln0⟩⟩ fun t H n q => ?_
    apply eY 2; simp [q]
    refine gn (fun t H n => Q5_3 a0 a1 b1 b2 t H n ∧ t 5 = .sc (.int .i64 v4) ∧ t 6 = .own b8 0 ∧ H b8 = some (.cells (c26 (AType.mk 0 x7.Name x7.Fields)) 26) ∧ b8 < n ∧ b1 ≠ b8 ∧ b2 ≠ b8 ∧ n0 ≤ n) (by simp [q]) fun t H n q => ?_
    obtain ⟨n0, hn0⟩ : ∃ m, m = n := ⟨n, rfl⟩
    have ln0 : n0 ≤ n := Nat.le_of_eq hn0
    refine Stk.rgD [.rd [], .rd [b2], .rd [], .rd [], .rd [], .rd [], .rd [], .rd [b2], .rd [], .rd [], .rd [], .rd [], .rd [], .mem [] n0, .mem [] n0] none (by kernel_rfl) (by rfl) rfl (by simp [below, hn0, q, hn0, hn0]) rfl ?_
    obtain ⟨x9, hx9, h⟩ := bnd h
    obtain ⟨i0x9, i1x9, i2x9, _⟩ := idx_ok hx9
    have ex9_0_9 : partOf T.T 9 (encs c92 a1.Cons) (v4.toNat * 2) = some (.sc (.string x9.Name)) := (part_elem0 (e := c92) (z := 2) (ty := 9) T.t9 (by decide) (by decide) hx9 0 (by decide)).trans (ld_92_0_9 _)
    have ex9_1_24 : partOf T.T 24 (encs c92 a1.Cons) (v4.toNat * 2 + 1) = some (.ssl (encs c26 x9.Fields) x9.Fields.length false) := (part_elem0 (e := c92) (z := 2) (ty := 24) T.t24 (by decide) (by decide) hx9 1 (by decide)).trans (ld_92_1_24 _)
    apply eY 12; simp [q, ld_72_3_70, i0x9, i1x9, pd9, ex9_0_9, pd24, ex9_1_24]
    refine gn (fun t H n => Q5_3 a0 a1 b1 b2 t H n ∧ t 5 = .sc (.int .i64 v4) ∧ t 6 = .own b8 0 ∧ t 47 = .sc (.string x9.Name) ∧ t 53 = .ssl (encs c26 x9.Fields) x9.Fields.length false ∧ H b8 = some (.cells (c26 (AType.mk 0 x7.Name x7.Fields)) 26) ∧ b8 < n ∧ b1 ≠ b8 ∧ b2 ≠ b8 ∧ n0 ≤ n) (by simp [q, ld_72_3_70, i0x9, i1x9, pd9, ex9_0_9, pd24, ex9_1_24, ln0]) fun t H n q => ?_
    refine Stk.ovD rfl (by simp [q]) rfl (vop_build T.t26 rfl rfl (cs := c26 (AType.mk 0 ⟨#[]⟩ [])) (cs' := c26 (AType.mk 0 x9.Name x9.Fields)) rfl (.cons q.2.2.2.1 rfl rfl rfl rfl (rfl) (by rw [len26]; decide) (st_26_1_9 _ _) (.cons q.2.2.2.2.1 rfl rfl rfl rfl (rfl) (by rw [len26]; decide) (st_26_2_24 _ _) (.nil)))) (by simp [q]) rfl (fun t' ht' => ?_)
    refine gn (fun t H n => Q5_3 a0 a1 b1 b2 t H n ∧ t 5 = .sc (.int .i64 v4) ∧ t 6 = .own b8 0 ∧ t 54 = .agg (c26 (AType.mk 0 x9.Name x9.Fields)) ∧ H b8 = some (.cells (c26 (AType.mk 0 x7.Name x7.Fields)) 26) ∧ b8 < n ∧ b1 ≠ b8 ∧ b2 ≠ b8 ∧ n0 ≤ n) (by simp [ht', q]) fun t H n q => ?_
    refine Stk.omD (S := []) (b := n0) rfl (fun j hj _ => upd_ne _ _ (by omega)) rfl (mop_alloc T.t26 (cs := T.i26.zero.map AV.sc) rfl) (by simp [q]) rfl (fun t' ht' => ?_)
    refine gn (fun t H n => ∃ b10, Q5_3 a0 a1 b1 b2 t H n ∧ t 5 = .sc (.int .i64 v4) ∧ t 6 = .own b8 0 ∧ t 7 = .own b10 0 ∧ t 54 = .agg (c26 (AType.mk 0 x9.Name x9.Fields)) ∧ H b8 = some (.cells (c26 (AType.mk 0 x7.Name x7.Fields)) 26) ∧ b8 < n ∧ H b10 = some (.cells (T.i26.zero.map AV.sc) 26) ∧ b10 < n ∧ n0 ≤ b10 ∧ b1 ≠ b8 ∧ b2 ≠ b8 ∧ b1 ≠ b10 ∧ b2 ≠ b10 ∧ b8 ≠ b10 ∧ n0 ≤ n) ⟨n, ⟨by simp [ht', q], by simp [ht', q], (upd_ne _ _ (Nat.ne_of_lt q.1.2.2.2.1)).trans q.1.2.2.1, Nat.lt_succ_of_lt q.1.2.2.2.1, (upd_ne _ _ (Nat.ne_of_lt q.1.2.2.2.2.2.1)).trans q.1.2.2.2.2.1, Nat.lt_succ_of_lt q.1.2.2.2.2.2.1, q.1.2.2.2.2.2.2⟩, j4 (by simp [ht', q]) ⟨(upd_ne _ _ (Nat.ne_of_lt q.2.2.2.2.2.1)).trans q.2.2.2.2.1, Nat.lt_succ_of_lt q.2.2.2.2.2.1, upd_same _ _ _, Nat.lt_succ_self _, q.2.2.2.2.2.2.2.2, q.2.2.2.2.2.2.1, q.2.2.2.2.2.2.2.1, Nat.ne_of_lt q.1.2.2.2.1, Nat.ne_of_lt q.1.2.2.2.2.2.1, Nat.ne_of_lt q.2.2.2.2.2.1, Nat.le_succ_of_le q.2.2.2.2.2.2.2.2⟩⟩ fun t H n ⟨b10, ⟨f2, f3, b_b1, l_b1, b_b2, l_b2, d_b1_b2⟩, f5, f6, f7, f54, b_b8, l_b8, b_b10, l_b10, z_b10, d_b1_b8, d_b2_b8, d_b1_b10, d_b2_b10, d_b8_b10, ln0⟩ => ?_
    refine Stk.omD (S := []) (b := n0) rfl (fun j hj _ => upd_ne _ _ (by have := z_b10; omega)) rfl (mop_store (z := 3) rfl f7 b_b10 f54 (len26 _) (by first | decide | simp) (ok26 _) (splice_all (Eq.trans (b := 3) rfl (len26 _).symm))) (by simp [f2, f3, f5, f6, f7, f54]) rfl (fun t' ht' => ?_)
    refine gn (fun t H n => Q5_3 a0 a1 b1 b2 t H n ∧ t 5 = .sc (.int .i64 v4) ∧ t 6 = .own b8 0 ∧ t 7 = .own b10 0 ∧ H b8 = some (.cells (c26 (AType.mk 0 x7.Name x7.Fields)) 26) ∧ b8 < n ∧ H b10 = some (.cells (c26 (AType.mk 0 x9.Name x9.Fields)) 26) ∧ b10 < n ∧ n0 ≤ b10 ∧ b1 ≠ b8 ∧ b2 ≠ b8 ∧ b1 ≠ b10 ∧ b2 ≠ b10 ∧ b8 ≠ b10 ∧ n0 ≤ n) ⟨⟨by simp [ht', f2], by simp [ht', f3], (upd_ne _ _ d_b1_b10).trans b_b1, l_b1, (upd_ne _ _ d_b2_b10).trans b_b2, l_b2, d_b1_b2⟩, j3 (by simp [ht', f5, f6, f7]) ⟨(upd_ne _ _ d_b8_b10).trans b_b8, l_b8, upd_same _ _ _, l_b10, z_b10, d_b1_b8, d_b2_b8, d_b1_b10, d_b2_b10, d_b8_b10, ln0⟩⟩ fun t H n q => ?_
    obtain ⟨x11, hx11, h⟩ := bnd h
    apply eY 5; simp [q, ld_26_0_26]
    refine cw (ok_R04_SameType F _ _ _ hx11) (by simp [q, ld_26_0_26]) rfl rfl (by simp [q, ld_26_0_26]) (.cons (.free (fr26 _)) (.cons (.free (fr26 _)) (.nil))) rfl ?_
    rintro _ rfl
    apply eY 2; simp [q, ld_26_0_26]
    refine cd (!x11) (by simp [q, ld_26_0_26]) (fun hb12 => ?_) (fun hb12 => ?_)
    ·have h := cT hb12 h
     apply eY 5; simp [q, ld_26_0_26]
     obtain rfl := sj h
     exact (hF hr (by simp [q, ld_26_0_26]) rfl).1
    ·have h := cF hb12 h
     apply eY 7; simp [q, ld_26_0_26]
     exact lm (hJ1 _ _ _ _ ⟨(IntKind.i64.wrap (v4 + 1)), h, by simp [q, ld_26_0_26]⟩)
   ·have h := cF hb6 h
    refine Stk.ex rfl ?_
    apply eY 5; simp [q, ld_72_3_70]
    obtain rfl := sj h
    exact (hF hr (by simp [q, ld_72_3_70]) rfl).1
theorem ok_R04_sameParam (F : Nat) (a0 : AParam) (a1 : AParam) (r : Bool) (h : R04_sameParam F a0 a1 = some r) : RunF Tryz.prog T.T 87 [.agg (c81 a0), .agg (c81 a1)] (.sc (.bool r)) := by
  rw [R04_sameParam] at h
  refine RunF.z Tryz.func87 rfl rfl rfl rfl rfl (fun C hr => ?_)
  refine gn (fun t H n => t 0 = .agg (c81 a0) ∧ t 1 = .agg (c81 a1)) ⟨by simp, by simp⟩ fun t H n q => ?_
  apply eY 2; simp [q]
  refine gn (fun t H n => t 0 = .agg (c81 a0) ∧ t 1 = .agg (c81 a1)) (by simp [q]) fun t H n q => ?_
  refine Stk.om (mop_box T.t81 (cs := c81 a0) (by show partOk (t 0) = true; rw [q.1]; rfl) (by show cellsOf (t 0) = _; rw [q.1]; rfl)) (by simp [q]) rfl (fun t' ht' => ?_)
  refine gn (fun t H n => ∃ b1, t 1 = .agg (c81 a1) ∧ t 2 = .own b1 0 ∧ H b1 = some (.cells (c81 a0) 81) ∧ b1 < n) ⟨n, j2 (by simp [ht', q]) ⟨upd_same _ _ _, Nat.lt_succ_self _⟩⟩ fun t H n ⟨b1, q⟩ => ?_
  refine Stk.om (mop_box T.t81 (cs := c81 a1) (by show partOk (t 1) = true; rw [q.1]; rfl) (by show cellsOf (t 1) = _; rw [q.1]; rfl)) (by simp [q]) rfl (fun t' ht' => ?_)
  refine gn (fun t H n => ∃ b2, t 2 = .own b1 0 ∧ t 3 = .own b2 0 ∧ H b1 = some (.cells (c81 a0) 81) ∧ b1 < n ∧ H b2 = some (.cells (c81 a1) 81) ∧ b2 < n ∧ b1 ≠ b2) ⟨n, j2 (by simp [ht', q]) ⟨(upd_ne _ _ (Nat.ne_of_lt q.2.2.2)).trans q.2.2.1, Nat.lt_succ_of_lt q.2.2.2, upd_same _ _ _, Nat.lt_succ_self _, Nat.ne_of_lt q.2.2.2⟩⟩ fun t H n ⟨b2, q⟩ => ?_
  apply eY 10; simp [q, ld_81_0_9]
  refine gn (fun t H n => t 2 = .own b1 0 ∧ t 3 = .own b2 0 ∧ t 10 = .sc (.bool (a0.Name.toList == a1.Name.toList)) ∧ H b1 = some (.cells (c81 a0) 81) ∧ b1 < n ∧ H b2 = some (.cells (c81 a1) 81) ∧ b2 < n ∧ b1 ≠ b2) (by simp [q, ld_81_0_9]) fun t H n q => ?_
  obtain ⟨K1, hK1, h⟩ := jnd h
  refine Stk.jo 6 (fun t H n => ∃ v3 : Bool, K1 v3 = some r ∧ t 16 = .sc (.bool v3)) (fun J1 hJ1 => ?_) ?_
  · rcases Bool.eq_false_or_eq_true (a0.Name.toList == a1.Name.toList) with hb1 | hb1
    · obtain ⟨f2, f3, f10, b_b1, l_b1, b_b2, l_b2, d_b1_b2⟩ := q
      rw [hb1] at f10
      replace h := cT hb1 h
      obtain ⟨x4, hx4, h⟩ := bnd h
      apply eY 4; simp [f2, f3, f10, b_b1, b_b2, ld_81_1_26]
      refine cw (ok_R04_SameType F _ _ _ hx4) (by simp [f2, f3, f10, b_b1, b_b2, ld_81_1_26]) rfl rfl (by simp [f2, f3, f10, b_b1, b_b2, ld_81_1_26]) (.cons (.free (fr26 _)) (.cons (.free (fr26 _)) (.nil))) rfl ?_
      rintro _ rfl
      apply eY 2; simp [f2, f3, f10, b_b1, b_b2, ld_81_1_26]
      exact l0 (hJ1 _ _ _ ⟨x4, h, by simp [f2, f3, f10, b_b1, b_b2, ld_81_1_26]⟩)
    · obtain ⟨f2, f3, f10, b_b1, l_b1, b_b2, l_b2, d_b1_b2⟩ := q
      rw [hb1] at f10
      replace h := cF hb1 h
      apply eY 7; simp [f2, f3, f10, b_b1, b_b2]
      exact l0 (hJ1 _ _ _ ⟨false, h, by simp [f2, f3, f10, b_b1, b_b2]⟩)
  clear q h
  rintro t H n ⟨v3, h, q⟩
  subst hK1
  apply eY 3; simp [q]
  obtain rfl := sj h
  exact (hF hr (by simp [q]) rfl).1
end Go.Proofs.YtappiofmkoelnaaGreatDoor.M
end
