/-
  The functions come to them.
-/
import Derived.Test.YtfflojbgikfbmaaHrM
import Derived.Test.YtfflojbgikfbmaaHrW1
namespace Go.Proofs.Ytfflojbgikfbmaa.M
open Go.Proofs.YtfflojbgikfbmaaW.Ah Go.Proofs.Ytfflojbgikfbmaa
set_option linter.unusedVariables false
set_option linter.unusedSimpArgs false
set_option maxRecDepth 8000
attribute [local simp] T.t3 T.t4 T.t34 T.t39 T.t40 T.t70 T.t93 List.range List.range.loop
attribute [-simp] appendAV fillAV
theorem ok_heap_Read (F : Nat) (a0 : Int) (r : (api_Head × Bool)) (h : heap_Read F a0 = some r) : RunF Try.prog T.T 57 [.sc (.int .u64 a0)] (.tup [.agg (c34 r.1), .sc (.bool r.2)]) := by
  rw [heap_Read] at h
  refine RunF.z Try.func57 rfl rfl rfl rfl rfl (fun C hr => ?_)
  refine Stk.gen (fun t H n => t 0 = .sc (.int .u64 a0)) (by simp) ?_
  rintro t H n f0
  refine Stk.sq ?_
  refine Stk.rg ?_
  refine Stk.om (mop_alloc T.t34 (cs := c34 (api_Head.mk 0 0 0)) rfl) (by simp [f0]) rfl (fun t' ht' => ?_)
  refine Stk.gen (fun t H n => ∃ b1, t 0 = .sc (.int .u64 a0) ∧ t 2 = .own b1 0 ∧ H b1 = some (.cells (c34 (api_Head.mk 0 0 0)) 34) ∧ b1 < n) ⟨n, by simp [ht', f0], by simp [ht'], upd_same _ _ _, Nat.lt_succ_self _⟩ ?_
  clear f0 ht' t'
  rintro t H n ⟨b1, f0, f2, b_b1, l_b1⟩
  refine Stk.run 1 (fun t H n => t 0 = .sc (.int .u64 a0) ∧ t 2 = .own b1 0 ∧ H b1 = some (.cells (c34 (api_Head.mk 0 0 0)) 34) ∧ b1 < n) (fun J hJ => ?_) ?_
  · simp [-splice, f0, f2, b_b1]
    exact hJ _ _ _ ⟨by simp [f0], by simp [f2], b_b1, l_b1⟩
  clear f0 f2 b_b1 l_b1
  rintro t H n ⟨f0, f2, b_b1, l_b1⟩
  refine Stk.on ?_
  refine Stk.sq ?_
  refine Stk.rg ?_
  refine Stk.run 11 (fun t H n => t 0 = .sc (.int .u64 a0) ∧ t 2 = .own b1 0 ∧ t 10 = .sc (.int .i64 (IntKind.i64.wrap (bandI .u64 (IntKind.u64.wrap (a0.tdiv 65536)) 15))) ∧ t 14 = .sc (.int .i64 (IntKind.i64.wrap (bandI .u64 (IntKind.u64.wrap (a0.tdiv 256)) 255))) ∧ t 17 = .sc (.int .i64 (IntKind.i64.wrap (bandI .u64 a0 255))) ∧ H b1 = some (.cells (c34 (api_Head.mk 0 0 0)) 34) ∧ b1 < n) (fun J hJ => ?_) ?_
  · simp [-splice, f0, f2, b_b1]
    exact hJ _ _ _ ⟨by simp [f0], by simp [f2], by simp [-splice, f0, f2, b_b1], by simp [-splice, f0, f2, b_b1], by simp [-splice, f0, f2, b_b1], b_b1, l_b1⟩
  clear f0 f2 b_b1 l_b1
  rintro t H n ⟨f0, f2, f10, f14, f17, b_b1, l_b1⟩
  refine Stk.ov (vop_build T.t34 rfl rfl (cs := c34 (api_Head.mk 0 0 0)) (cs' := c34 (api_Head.mk (IntKind.i64.wrap (bandI .u64 (IntKind.u64.wrap (a0.tdiv 65536)) 15)) (IntKind.i64.wrap (bandI .u64 (IntKind.u64.wrap (a0.tdiv 256)) 255)) (IntKind.i64.wrap (bandI .u64 a0 255)))) rfl (.cons f10 rfl rfl rfl rfl (rfl) (by rw [len34]; decide) (st_34_0_3 _ _) (.cons f14 rfl rfl rfl rfl (rfl) (by rw [len34]; decide) (st_34_1_3 _ _) (.cons f17 rfl rfl rfl rfl (rfl) (by rw [len34]; decide) (st_34_2_3 _ _) (.nil))))) (by simp [f0, f2, f10, f14, f17]) rfl (fun t' ht' => ?_)
  refine Stk.gen (fun t H n => t 0 = .sc (.int .u64 a0) ∧ t 2 = .own b1 0 ∧ t 18 = .agg (c34 (api_Head.mk (IntKind.i64.wrap (bandI .u64 (IntKind.u64.wrap (a0.tdiv 65536)) 15)) (IntKind.i64.wrap (bandI .u64 (IntKind.u64.wrap (a0.tdiv 256)) 255)) (IntKind.i64.wrap (bandI .u64 a0 255)))) ∧ H b1 = some (.cells (c34 (api_Head.mk 0 0 0)) 34) ∧ b1 < n) ⟨by simp [ht', f0], by simp [ht', f2], by simp [ht'], b_b1, l_b1⟩ ?_
  clear f0 f2 f10 f14 f17 b_b1 l_b1 ht' t'
  rintro t H n ⟨f0, f2, f18, b_b1, l_b1⟩
  refine Stk.om (mop_alloc T.t34 (cs := c34 (api_Head.mk 0 0 0)) rfl) (by simp [f0, f2, f18]) rfl (fun t' ht' => ?_)
  refine Stk.gen (fun t H n => ∃ b2, t 0 = .sc (.int .u64 a0) ∧ t 2 = .own b1 0 ∧ t 4 = .own b2 0 ∧ t 18 = .agg (c34 (api_Head.mk (IntKind.i64.wrap (bandI .u64 (IntKind.u64.wrap (a0.tdiv 65536)) 15)) (IntKind.i64.wrap (bandI .u64 (IntKind.u64.wrap (a0.tdiv 256)) 255)) (IntKind.i64.wrap (bandI .u64 a0 255)))) ∧ H b1 = some (.cells (c34 (api_Head.mk 0 0 0)) 34) ∧ b1 < n ∧ H b2 = some (.cells (c34 (api_Head.mk 0 0 0)) 34) ∧ b2 < n ∧ b1 ≠ b2) ⟨n, by simp [ht', f0], by simp [ht', f2], by simp [ht'], by simp [ht', f18], (upd_ne _ _ (Nat.ne_of_lt l_b1)).trans b_b1, Nat.lt_succ_of_lt l_b1, upd_same _ _ _, Nat.lt_succ_self _, Nat.ne_of_lt l_b1⟩ ?_
  clear f0 f2 f18 b_b1 l_b1 ht' t'
  rintro t H n ⟨b2, f0, f2, f4, f18, b_b1, l_b1, b_b2, l_b2, d_b1_b2⟩
  refine Stk.om (mop_store (z := 3) rfl f4 b_b2 f18 (len34 _) (by rw [len34]; decide) (ok34 _) (st_34_0_34 _ _)) (by simp [f0, f2, f4, f18]) rfl (fun t' ht' => ?_)
  refine Stk.gen (fun t H n => t 0 = .sc (.int .u64 a0) ∧ t 2 = .own b1 0 ∧ t 4 = .own b2 0 ∧ H b1 = some (.cells (c34 (api_Head.mk 0 0 0)) 34) ∧ b1 < n ∧ H b2 = some (.cells (c34 (api_Head.mk (IntKind.i64.wrap (bandI .u64 (IntKind.u64.wrap (a0.tdiv 65536)) 15)) (IntKind.i64.wrap (bandI .u64 (IntKind.u64.wrap (a0.tdiv 256)) 255)) (IntKind.i64.wrap (bandI .u64 a0 255)))) 34) ∧ b2 < n ∧ b1 ≠ b2) ⟨by simp [ht', f0], by simp [ht', f2], by simp [ht', f4], (upd_ne _ _ d_b1_b2).trans b_b1, l_b1, upd_same _ _ _, l_b2, d_b1_b2⟩ ?_
  clear f0 f2 f4 f18 b_b1 l_b1 b_b2 l_b2 d_b1_b2 ht' t'
  rintro t H n ⟨f0, f2, f4, b_b1, l_b1, b_b2, l_b2, d_b1_b2⟩
  refine Stk.on ?_
  refine Stk.sq ?_
  refine Stk.sq ?_
  refine Stk.rg ?_
  refine Stk.run 1 (fun t H n => t 0 = .sc (.int .u64 a0) ∧ t 2 = .own b1 0 ∧ t 4 = .own b2 0 ∧ t 20 = .agg (c34 (api_Head.mk (IntKind.i64.wrap (bandI .u64 (IntKind.u64.wrap (a0.tdiv 65536)) 15)) (IntKind.i64.wrap (bandI .u64 (IntKind.u64.wrap (a0.tdiv 256)) 255)) (IntKind.i64.wrap (bandI .u64 a0 255)))) ∧ H b1 = some (.cells (c34 (api_Head.mk 0 0 0)) 34) ∧ b1 < n ∧ H b2 = some (.cells (c34 (api_Head.mk (IntKind.i64.wrap (bandI .u64 (IntKind.u64.wrap (a0.tdiv 65536)) 15)) (IntKind.i64.wrap (bandI .u64 (IntKind.u64.wrap (a0.tdiv 256)) 255)) (IntKind.i64.wrap (bandI .u64 a0 255)))) 34) ∧ b2 < n ∧ b1 ≠ b2) (fun J hJ => ?_) ?_
  · simp [-splice, f0, f2, f4, b_b1, b_b2, ld_34_0_34]
    exact hJ _ _ _ ⟨by simp [f0], by simp [f2], by simp [f4], by simp [-splice, f0, f2, f4, b_b1, b_b2, ld_34_0_34], b_b1, l_b1, b_b2, l_b2, d_b1_b2⟩
  clear f0 f2 f4 b_b1 l_b1 b_b2 l_b2 d_b1_b2
  rintro t H n ⟨f0, f2, f4, f20, b_b1, l_b1, b_b2, l_b2, d_b1_b2⟩
  obtain ⟨x3, hx3, h⟩ := bnd h
  refine Stk.cv (g := 55) (args := [.agg (c34 (api_Head.mk (IntKind.i64.wrap (bandI .u64 (IntKind.u64.wrap (a0.tdiv 65536)) 15)) (IntKind.i64.wrap (bandI .u64 (IntKind.u64.wrap (a0.tdiv 256)) 255)) (IntKind.i64.wrap (bandI .u64 a0 255))))]) (args' := [.agg (c34 (api_Head.mk (IntKind.i64.wrap (bandI .u64 (IntKind.u64.wrap (a0.tdiv 65536)) 15)) (IntKind.i64.wrap (bandI .u64 (IntKind.u64.wrap (a0.tdiv 256)) 255)) (IntKind.i64.wrap (bandI .u64 a0 255))))]) (v := .tup [.sc (.int .u64 x3.1), .sc (.bool x3.2)]) [] (ok_heap_Head F _ _ hx3) (by simp [f0, f2, f4, f20]) rfl rfl (by simp [f0, f2, f4, f20]) (.cons (.free (fr34 _)) (.nil)) (.inl ⟨rfl, by simp [free, freeL]⟩) (fun t' ht' => ?_)
  refine Stk.gen (fun t H n => t 0 = .sc (.int .u64 a0) ∧ t 2 = .own b1 0 ∧ t 4 = .own b2 0 ∧ t 21 = .tup [.sc (.int .u64 x3.1), .sc (.bool x3.2)] ∧ H b1 = some (.cells (c34 (api_Head.mk 0 0 0)) 34) ∧ b1 < n ∧ H b2 = some (.cells (c34 (api_Head.mk (IntKind.i64.wrap (bandI .u64 (IntKind.u64.wrap (a0.tdiv 65536)) 15)) (IntKind.i64.wrap (bandI .u64 (IntKind.u64.wrap (a0.tdiv 256)) 255)) (IntKind.i64.wrap (bandI .u64 a0 255)))) 34) ∧ b2 < n ∧ b1 ≠ b2) ⟨by simp [ht', f0], by simp [ht', f2], by simp [ht', f4], by simp [ht'], b_b1, l_b1, b_b2, l_b2, d_b1_b2⟩ ?_
  clear f0 f2 f4 f20 b_b1 l_b1 b_b2 l_b2 d_b1_b2 ht' t'
  rintro t H n ⟨f0, f2, f4, f21, b_b1, l_b1, b_b2, l_b2, d_b1_b2⟩
  refine Stk.run 5 (fun t H n => t 0 = .sc (.int .u64 a0) ∧ t 2 = .own b1 0 ∧ t 4 = .own b2 0 ∧ t 5 = .sc (.int .u64 x3.1) ∧ t 6 = .sc (.bool x3.2) ∧ H b1 = some (.cells (c34 (api_Head.mk 0 0 0)) 34) ∧ b1 < n ∧ H b2 = some (.cells (c34 (api_Head.mk (IntKind.i64.wrap (bandI .u64 (IntKind.u64.wrap (a0.tdiv 65536)) 15)) (IntKind.i64.wrap (bandI .u64 (IntKind.u64.wrap (a0.tdiv 256)) 255)) (IntKind.i64.wrap (bandI .u64 a0 255)))) 34) ∧ b2 < n ∧ b1 ≠ b2) (fun J hJ => ?_) ?_
  · simp [-splice, f0, f2, f4, f21, b_b1, b_b2]
    exact hJ _ _ _ ⟨by simp [f0], by simp [f2], by simp [f4], by simp [-splice, f0, f2, f4, f21, b_b1, b_b2], by simp [-splice, f0, f2, f4, f21, b_b1, b_b2], b_b1, l_b1, b_b2, l_b2, d_b1_b2⟩
  clear f0 f2 f4 f21 b_b1 l_b1 b_b2 l_b2 d_b1_b2
  rintro t H n ⟨f0, f2, f4, f5, f6, b_b1, l_b1, b_b2, l_b2, d_b1_b2⟩
  refine Stk.on ?_
  refine Stk.sq ?_
  refine Stk.rg ?_
  refine Stk.run 3 (fun t H n => t 0 = .sc (.int .u64 a0) ∧ t 2 = .own b1 0 ∧ t 4 = .own b2 0 ∧ t 5 = .sc (.int .u64 x3.1) ∧ t 26 = .sc (.bool (!x3.2)) ∧ H b1 = some (.cells (c34 (api_Head.mk 0 0 0)) 34) ∧ b1 < n ∧ H b2 = some (.cells (c34 (api_Head.mk (IntKind.i64.wrap (bandI .u64 (IntKind.u64.wrap (a0.tdiv 65536)) 15)) (IntKind.i64.wrap (bandI .u64 (IntKind.u64.wrap (a0.tdiv 256)) 255)) (IntKind.i64.wrap (bandI .u64 a0 255)))) 34) ∧ b2 < n ∧ b1 ≠ b2) (fun J hJ => ?_) ?_
  · simp [-splice, f0, f2, f4, f5, f6, b_b1, b_b2]
    exact hJ _ _ _ ⟨by simp [f0], by simp [f2], by simp [f4], by simp [f5], by simp [-splice, f0, f2, f4, f5, f6, b_b1, b_b2], b_b1, l_b1, b_b2, l_b2, d_b1_b2⟩
  clear f0 f2 f4 f5 f6 b_b1 l_b1 b_b2 l_b2 d_b1_b2
  rintro t H n ⟨f0, f2, f4, f5, f26, b_b1, l_b1, b_b2, l_b2, d_b1_b2⟩
  refine Stk.jo 4 (fun t H n => t 2 = .own b1 0 ∧ t 4 = .own b2 0 ∧ t 30 = .sc (.bool ((!x3.2) || (x3.1 != a0))) ∧ H b1 = some (.cells (c34 (api_Head.mk 0 0 0)) 34) ∧ b1 < n ∧ H b2 = some (.cells (c34 (api_Head.mk (IntKind.i64.wrap (bandI .u64 (IntKind.u64.wrap (a0.tdiv 65536)) 15)) (IntKind.i64.wrap (bandI .u64 (IntKind.u64.wrap (a0.tdiv 256)) 255)) (IntKind.i64.wrap (bandI .u64 a0 255)))) 34) ∧ b2 < n ∧ b1 ≠ b2) (fun J1 hJ1 => ?_) ?_
  · rcases Bool.eq_false_or_eq_true (!x3.2) with hb1 | hb1
    · rw [hb1] at f26
      refine Stk.run 4 (fun t H n => t 2 = .own b1 0 ∧ t 4 = .own b2 0 ∧ t 30 = .sc (.bool true) ∧ H b1 = some (.cells (c34 (api_Head.mk 0 0 0)) 34) ∧ b1 < n ∧ H b2 = some (.cells (c34 (api_Head.mk (IntKind.i64.wrap (bandI .u64 (IntKind.u64.wrap (a0.tdiv 65536)) 15)) (IntKind.i64.wrap (bandI .u64 (IntKind.u64.wrap (a0.tdiv 256)) 255)) (IntKind.i64.wrap (bandI .u64 a0 255)))) 34) ∧ b2 < n ∧ b1 ≠ b2) (fun J hJ => ?_) ?_
      · simp [-splice, f0, f2, f4, f5, f26, b_b1, b_b2]
        exact hJ _ _ _ ⟨by simp [f2], by simp [f4], by simp [-splice, f0, f2, f4, f5, f26, b_b1, b_b2], b_b1, l_b1, b_b2, l_b2, d_b1_b2⟩
      clear f0 f2 f4 f5 f26 b_b1 l_b1 b_b2 l_b2 d_b1_b2
      rintro t H n ⟨f2, f4, f30, b_b1, l_b1, b_b2, l_b2, d_b1_b2⟩
      refine Stk.on ?_
      exact Stk.ln 0 (by decide) (hJ1 _ _ _ ⟨f2, f4, f30.trans (congrArg (fun q => AV.sc (.bool q)) (by rw [hb1]; rfl)), b_b1, l_b1, b_b2, l_b2, d_b1_b2⟩)
    · rw [hb1] at f26
      refine Stk.run 4 (fun t H n => t 2 = .own b1 0 ∧ t 4 = .own b2 0 ∧ t 30 = .sc (.bool (x3.1 != a0)) ∧ H b1 = some (.cells (c34 (api_Head.mk 0 0 0)) 34) ∧ b1 < n ∧ H b2 = some (.cells (c34 (api_Head.mk (IntKind.i64.wrap (bandI .u64 (IntKind.u64.wrap (a0.tdiv 65536)) 15)) (IntKind.i64.wrap (bandI .u64 (IntKind.u64.wrap (a0.tdiv 256)) 255)) (IntKind.i64.wrap (bandI .u64 a0 255)))) 34) ∧ b2 < n ∧ b1 ≠ b2) (fun J hJ => ?_) ?_
      · simp [-splice, f0, f2, f4, f5, f26, b_b1, b_b2]
        exact hJ _ _ _ ⟨by simp [f2], by simp [f4], by simp [-splice, f0, f2, f4, f5, f26, b_b1, b_b2], b_b1, l_b1, b_b2, l_b2, d_b1_b2⟩
      clear f0 f2 f4 f5 f26 b_b1 l_b1 b_b2 l_b2 d_b1_b2
      rintro t H n ⟨f2, f4, f30, b_b1, l_b1, b_b2, l_b2, d_b1_b2⟩
      refine Stk.on ?_
      exact Stk.ln 0 (by decide) (hJ1 _ _ _ ⟨f2, f4, f30.trans (congrArg (fun q => AV.sc (.bool q)) (by rw [hb1]; rfl)), b_b1, l_b1, b_b2, l_b2, d_b1_b2⟩)
  clear f0 f2 f4 f5 f26 b_b1 l_b1 b_b2 l_b2 d_b1_b2
  rintro t H n ⟨f2, f4, f30, b_b1, l_b1, b_b2, l_b2, d_b1_b2⟩
  refine Stk.on ?_
  refine Stk.cond ((!x3.2) || (x3.1 != a0)) (by exact f30) (fun hb4 => ?_) (fun hb4 => ?_)
  · have h := cT hb4 h
    refine Stk.sq ?_
    refine Stk.rg ?_
    refine Stk.ov (vop_build T.t34 rfl rfl (cs := c34 (api_Head.mk 0 0 0)) (cs' := c34 (api_Head.mk 0 0 0)) rfl (.nil)) (by simp [f2, f4, f30]) rfl (fun t' ht' => ?_)
    refine Stk.gen (fun t H n => t 2 = .own b1 0 ∧ t 31 = .agg (c34 (api_Head.mk 0 0 0)) ∧ H b1 = some (.cells (c34 (api_Head.mk 0 0 0)) 34) ∧ b1 < n) ⟨by simp [ht', f2], by simp [ht'], b_b1, l_b1⟩ ?_
    clear f2 f4 f30 b_b1 l_b1 b_b2 l_b2 d_b1_b2 ht' t'
    rintro t H n ⟨f2, f31, b_b1, l_b1⟩
    refine Stk.om (mop_store (z := 3) rfl f2 b_b1 f31 (len34 _) (by rw [len34]; decide) (ok34 _) (st_34_0_34 _ _)) (by simp [f2, f31]) rfl (fun t' ht' => ?_)
    refine Stk.gen (fun t H n => t 2 = .own b1 0 ∧ H b1 = some (.cells (c34 (api_Head.mk 0 0 0)) 34) ∧ b1 < n) ⟨by simp [ht', f2], upd_same _ _ _, l_b1⟩ ?_
    clear f2 f31 b_b1 l_b1 ht' t'
    rintro t H n ⟨f2, b_b1, l_b1⟩
    refine Stk.run 1 (fun t H n => t 2 = .own b1 0 ∧ t 3 = .sc (.bool false) ∧ H b1 = some (.cells (c34 (api_Head.mk 0 0 0)) 34) ∧ b1 < n) (fun J hJ => ?_) ?_
    · simp [-splice, f2, b_b1]
      exact hJ _ _ _ ⟨by simp [f2], by simp [-splice, f2, b_b1], b_b1, l_b1⟩
    clear f2 b_b1 l_b1
    rintro t H n ⟨f2, f3, b_b1, l_b1⟩
    refine Stk.on ?_
    refine Stk.rt ?_
    have hq := Option.some.inj h; subst hq
    exact (hr _ _ _ (.tup [.agg (c34 (api_Head.mk 0 0 0)), .sc (.bool false)]) ([]) (by simp [f2, f3, b_b1, ld_34_0_34]) (.inr (.inr (.tup (.cons (.free (fr34 _)) (.cons (.free (rfl)) (.nil))))))).1
  · have h := cF hb4 h
    refine Stk.sk ?_
    refine Stk.sq ?_
    refine Stk.rg ?_
    refine Stk.run 1 (fun t H n => t 2 = .own b1 0 ∧ t 32 = .agg (c34 (api_Head.mk (IntKind.i64.wrap (bandI .u64 (IntKind.u64.wrap (a0.tdiv 65536)) 15)) (IntKind.i64.wrap (bandI .u64 (IntKind.u64.wrap (a0.tdiv 256)) 255)) (IntKind.i64.wrap (bandI .u64 a0 255)))) ∧ H b1 = some (.cells (c34 (api_Head.mk 0 0 0)) 34) ∧ b1 < n) (fun J hJ => ?_) ?_
    · simp [-splice, f2, f4, f30, b_b1, b_b2, ld_34_0_34]
      exact hJ _ _ _ ⟨by simp [f2], by simp [-splice, f2, f4, f30, b_b1, b_b2, ld_34_0_34], b_b1, l_b1⟩
    clear f2 f4 f30 b_b1 l_b1 b_b2 l_b2 d_b1_b2
    rintro t H n ⟨f2, f32, b_b1, l_b1⟩
    refine Stk.om (mop_store (z := 3) rfl f2 b_b1 f32 (len34 _) (by rw [len34]; decide) (ok34 _) (st_34_0_34 _ _)) (by simp [f2, f32]) rfl (fun t' ht' => ?_)
    refine Stk.gen (fun t H n => t 2 = .own b1 0 ∧ H b1 = some (.cells (c34 (api_Head.mk (IntKind.i64.wrap (bandI .u64 (IntKind.u64.wrap (a0.tdiv 65536)) 15)) (IntKind.i64.wrap (bandI .u64 (IntKind.u64.wrap (a0.tdiv 256)) 255)) (IntKind.i64.wrap (bandI .u64 a0 255)))) 34) ∧ b1 < n) ⟨by simp [ht', f2], upd_same _ _ _, l_b1⟩ ?_
    clear f2 f32 b_b1 l_b1 ht' t'
    rintro t H n ⟨f2, b_b1, l_b1⟩
    refine Stk.run 1 (fun t H n => t 2 = .own b1 0 ∧ t 3 = .sc (.bool true) ∧ H b1 = some (.cells (c34 (api_Head.mk (IntKind.i64.wrap (bandI .u64 (IntKind.u64.wrap (a0.tdiv 65536)) 15)) (IntKind.i64.wrap (bandI .u64 (IntKind.u64.wrap (a0.tdiv 256)) 255)) (IntKind.i64.wrap (bandI .u64 a0 255)))) 34) ∧ b1 < n) (fun J hJ => ?_) ?_
    · simp [-splice, f2, b_b1]
      exact hJ _ _ _ ⟨by simp [f2], by simp [-splice, f2, b_b1], b_b1, l_b1⟩
    clear f2 b_b1 l_b1
    rintro t H n ⟨f2, f3, b_b1, l_b1⟩
    refine Stk.on ?_
    refine Stk.rt ?_
    have hq := Option.some.inj h; subst hq
    exact (hr _ _ _ (.tup [.agg (c34 (api_Head.mk (IntKind.i64.wrap (bandI .u64 (IntKind.u64.wrap (a0.tdiv 65536)) 15)) (IntKind.i64.wrap (bandI .u64 (IntKind.u64.wrap (a0.tdiv 256)) 255)) (IntKind.i64.wrap (bandI .u64 a0 255)))), .sc (.bool true)]) ([]) (by simp [f2, f3, b_b1, ld_34_0_34]) (.inr (.inr (.tup (.cons (.free (fr34 _)) (.cons (.free (rfl)) (.nil))))))).1
theorem ok_heap_body (F : Nat) (a0 : api_Head) (r : Int) (h : heap_body F a0 = some r) : RunF Try.prog T.T 93 [.agg (c34 a0)] (.sc (.int .i64 r)) := by
  rw [heap_body] at h
  refine RunF.z Try.func93 rfl rfl rfl rfl rfl (fun C hr => ?_)
  refine Stk.gen (fun t H n => t 0 = .agg (c34 a0)) (by simp) ?_
  rintro t H n f0
  refine Stk.sq ?_
  refine Stk.rg ?_
  refine Stk.om (mop_box T.t34 (cs := c34 a0) (by show partOk (t 0) = true; rw [f0]; rfl) (by show cellsOf (t 0) = _; rw [f0]; rfl)) (by simp [f0]) rfl (fun t' ht' => ?_)
  refine Stk.gen (fun t H n => ∃ b1, t 1 = .own b1 0 ∧ H b1 = some (.cells (c34 a0) 34) ∧ b1 < n) ⟨n, by simp [ht'], upd_same _ _ _, Nat.lt_succ_self _⟩ ?_
  clear f0 ht' t'
  rintro t H n ⟨b1, f1, b_b1, l_b1⟩
  refine Stk.run 1 (fun t H n => t 1 = .own b1 0 ∧ H b1 = some (.cells (c34 a0) 34) ∧ b1 < n) (fun J hJ => ?_) ?_
  · simp [-splice, f1, b_b1]
    exact hJ _ _ _ ⟨by simp [f1], b_b1, l_b1⟩
  clear f1 b_b1 l_b1
  rintro t H n ⟨f1, b_b1, l_b1⟩
  refine Stk.on ?_
  refine Stk.sq ?_
  refine Stk.sq ?_
  refine Stk.rg ?_
  refine Stk.run 3 (fun t H n => t 1 = .own b1 0 ∧ t 5 = .sc (.bool (a0.Kind == 1)) ∧ H b1 = some (.cells (c34 a0) 34) ∧ b1 < n) (fun J hJ => ?_) ?_
  · simp [-splice, f1, b_b1, ld_34_0_3]
    exact hJ _ _ _ ⟨by simp [f1], by simp [-splice, f1, b_b1, ld_34_0_3], b_b1, l_b1⟩
  clear f1 b_b1 l_b1
  rintro t H n ⟨f1, f5, b_b1, l_b1⟩
  refine Stk.on ?_
  refine Stk.cond (a0.Kind == 1) (by exact f5) (fun hb2 => ?_) (fun hb2 => ?_)
  · have h := cT hb2 h
    refine Stk.sq ?_
    refine Stk.rg ?_
    refine Stk.run 5 (fun t H n => t 2 = .sc (.int .i64 (shrI .i64 (IntKind.i64.wrap (a0.Count + 7)) 3))) (fun J hJ => ?_) ?_
    · simp [-splice, f1, f5, b_b1, ld_34_2_3]
      exact hJ _ _ _ (by simp [-splice, f1, f5, b_b1, ld_34_2_3])
    clear f1 f5 b_b1 l_b1
    rintro t H n f2
    refine Stk.on ?_
    refine Stk.rt ?_
    have hq := Option.some.inj h; subst hq
    exact (hr _ _ _ (.sc (.int .i64 (shrI .i64 (IntKind.i64.wrap (a0.Count + 7)) 3))) ([]) (by simp [f2]) (.inr (.inr (.free (rfl))))).1
  · have h := cF hb2 h
    refine Stk.sk ?_
    refine Stk.sq ?_
    refine Stk.rg ?_
    refine Stk.run 3 (fun t H n => t 2 = .sc (.int .i64 a0.Count)) (fun J hJ => ?_) ?_
    · simp [-splice, f1, f5, b_b1, ld_34_2_3]
      exact hJ _ _ _ (by simp [-splice, f1, f5, b_b1, ld_34_2_3])
    clear f1 f5 b_b1 l_b1
    rintro t H n f2
    refine Stk.on ?_
    refine Stk.rt ?_
    have hq := Option.some.inj h; subst hq
    exact (hr _ _ _ (.sc (.int .i64 a0.Count)) ([]) (by simp [f2]) (.inr (.inr (.free (rfl))))).1
theorem ok_heap_Size (F : Nat) (a0 : api_Head) (r : Int) (h : heap_Size F a0 = some r) : RunF Try.prog T.T 49 [.agg (c34 a0)] (.sc (.int .i64 r)) := by
  rw [heap_Size] at h
  refine RunF.z Try.func49 rfl rfl rfl rfl rfl (fun C hr => ?_)
  refine Stk.gen (fun t H n => t 0 = .agg (c34 a0)) (by simp) ?_
  rintro t H n f0
  refine Stk.sq ?_
  refine Stk.rg ?_
  refine Stk.om (mop_box T.t34 (cs := c34 a0) (by show partOk (t 0) = true; rw [f0]; rfl) (by show cellsOf (t 0) = _; rw [f0]; rfl)) (by simp [f0]) rfl (fun t' ht' => ?_)
  refine Stk.gen (fun t H n => ∃ b1, t 1 = .own b1 0 ∧ H b1 = some (.cells (c34 a0) 34) ∧ b1 < n) ⟨n, by simp [ht'], upd_same _ _ _, Nat.lt_succ_self _⟩ ?_
  clear f0 ht' t'
  rintro t H n ⟨b1, f1, b_b1, l_b1⟩
  refine Stk.run 1 (fun t H n => t 1 = .own b1 0 ∧ H b1 = some (.cells (c34 a0) 34) ∧ b1 < n) (fun J hJ => ?_) ?_
  · simp [-splice, f1, b_b1]
    exact hJ _ _ _ ⟨by simp [f1], b_b1, l_b1⟩
  clear f1 b_b1 l_b1
  rintro t H n ⟨f1, b_b1, l_b1⟩
  refine Stk.on ?_
  refine Stk.sq ?_
  refine Stk.sq ?_
  refine Stk.rg ?_
  refine Stk.run 1 (fun t H n => t 1 = .own b1 0 ∧ t 3 = .agg (c34 a0) ∧ H b1 = some (.cells (c34 a0) 34) ∧ b1 < n) (fun J hJ => ?_) ?_
  · simp [-splice, f1, b_b1, ld_34_0_34]
    exact hJ _ _ _ ⟨by simp [f1], by simp [-splice, f1, b_b1, ld_34_0_34], b_b1, l_b1⟩
  clear f1 b_b1 l_b1
  rintro t H n ⟨f1, f3, b_b1, l_b1⟩
  obtain ⟨x2, hx2, h⟩ := bnd h
  refine Stk.cv (g := 112) (args := [.agg (c34 a0)]) (args' := [.agg (c34 a0)]) (v := .sc (.bool x2)) [] (ok_heap_can F _ _ hx2) (by simp [f1, f3]) rfl rfl (by simp [f1, f3]) (.cons (.free (fr34 _)) (.nil)) (.inl ⟨rfl, rfl⟩) (fun t' ht' => ?_)
  refine Stk.gen (fun t H n => t 1 = .own b1 0 ∧ t 4 = .sc (.bool x2) ∧ H b1 = some (.cells (c34 a0) 34) ∧ b1 < n) ⟨by simp [ht', f1], by simp [ht'], b_b1, l_b1⟩ ?_
  clear f1 f3 b_b1 l_b1 ht' t'
  rintro t H n ⟨f1, f4, b_b1, l_b1⟩
  refine Stk.run 1 (fun t H n => t 1 = .own b1 0 ∧ t 5 = .sc (.bool (!x2)) ∧ H b1 = some (.cells (c34 a0) 34) ∧ b1 < n) (fun J hJ => ?_) ?_
  · simp [-splice, f1, f4, b_b1]
    exact hJ _ _ _ ⟨by simp [f1], by simp [-splice, f1, f4, b_b1], b_b1, l_b1⟩
  clear f1 f4 b_b1 l_b1
  rintro t H n ⟨f1, f5, b_b1, l_b1⟩
  refine Stk.on ?_
  refine Stk.cond (!x2) (by exact f5) (fun hb3 => ?_) (fun hb3 => ?_)
  · have h := cT hb3 h
    refine Stk.sq ?_
    refine Stk.rg ?_
    refine Stk.run 1 (fun t H n => t 2 = .sc (.int .i64 0)) (fun J hJ => ?_) ?_
    · simp [-splice, f1, f5, b_b1]
      exact hJ _ _ _ (by simp [-splice, f1, f5, b_b1])
    clear f1 f5 b_b1 l_b1
    rintro t H n f2
    refine Stk.on ?_
    refine Stk.rt ?_
    have hq := Option.some.inj h; subst hq
    exact (hr _ _ _ (.sc (.int .i64 0)) ([]) (by simp [f2]) (.inr (.inr (.free (rfl))))).1
  · have h := cF hb3 h
    refine Stk.sk ?_
    refine Stk.sq ?_
    refine Stk.rg ?_
    refine Stk.run 1 (fun t H n => t 6 = .agg (c34 a0)) (fun J hJ => ?_) ?_
    · simp [-splice, f1, f5, b_b1, ld_34_0_34]
      exact hJ _ _ _ (by simp [-splice, f1, f5, b_b1, ld_34_0_34])
    clear f1 f5 b_b1 l_b1
    rintro t H n f6
    obtain ⟨x4, hx4, h⟩ := bnd h
    refine Stk.cv (g := 93) (args := [.agg (c34 a0)]) (args' := [.agg (c34 a0)]) (v := .sc (.int .i64 x4)) [] (ok_heap_body F _ _ hx4) (by simp [f6]) rfl rfl (by simp [f6]) (.cons (.free (fr34 _)) (.nil)) (.inl ⟨rfl, rfl⟩) (fun t' ht' => ?_)
    refine Stk.gen (fun t H n => t 7 = .sc (.int .i64 x4)) (by simp [ht']) ?_
    clear f6 ht' t'
    rintro t H n f7
    refine Stk.run 2 (fun t H n => t 2 = .sc (.int .i64 (IntKind.i64.wrap (2 + x4)))) (fun J hJ => ?_) ?_
    · simp [-splice, f7]
      exact hJ _ _ _ (by simp [-splice, f7])
    clear f7
    rintro t H n f2
    refine Stk.on ?_
    refine Stk.rt ?_
    have hq := Option.some.inj h; subst hq
    exact (hr _ _ _ (.sc (.int .i64 (IntKind.i64.wrap (2 + x4)))) ([]) (by simp [f2]) (.inr (.inr (.free (rfl))))).1
theorem ok_word_Ptr (F : Nat) (a0 : Int) (r : Int) (h : word_Ptr F a0 = some r) : RunF Try.prog T.T 41 [.sc (.int .u32 a0)] (.sc (.int .u64 r)) := by
  rw [word_Ptr] at h
  refine RunF.z Try.func41 rfl rfl rfl rfl rfl (fun C hr => ?_)
  refine Stk.gen (fun t H n => t 0 = .sc (.int .u32 a0)) (by simp) ?_
  rintro t H n f0
  refine Stk.sq ?_
  refine Stk.rg ?_
  refine Stk.run 1 (fun t H n => t 0 = .sc (.int .u32 a0)) (fun J hJ => ?_) ?_
  · simp [-splice, f0]
    exact hJ _ _ _ (by simp [f0])
  clear f0
  rintro t H n f0
  refine Stk.on ?_
  refine Stk.sq ?_
  refine Stk.rg ?_
  refine Stk.run 4 (fun t H n => t 2 = .sc (.int .u64 (shlI .u64 (IntKind.u64.wrap a0) 1))) (fun J hJ => ?_) ?_
  · simp [-splice, f0]
    exact hJ _ _ _ (by simp [-splice, f0])
  clear f0
  rintro t H n f2
  refine Stk.on ?_
  refine Stk.rt ?_
  have hq := Option.some.inj h; subst hq
  exact (hr _ _ _ (.sc (.int .u64 (shlI .u64 (IntKind.u64.wrap a0) 1))) ([]) (by simp [f2]) (.inr (.inr (.free (rfl))))).1
theorem ok_heap_Fit (F : Nat) (a0 : api_Heap) (r : Bool) (h : heap_Fit F a0 = some r) : RunF Try.prog T.T 61 [.agg (c93 a0)] (.sc (.bool r)) := by
  rw [heap_Fit] at h
  refine RunF.z Try.func61 rfl rfl rfl rfl rfl (fun C hr => ?_)
  refine Stk.gen (fun t H n => t 0 = .agg (c93 a0)) (by simp) ?_
  rintro t H n f0
  refine Stk.sq ?_
  refine Stk.rg ?_
  refine Stk.om (mop_box T.t93 (cs := c93 a0) (by show partOk (t 0) = true; rw [f0]; rfl) (by show cellsOf (t 0) = _; rw [f0]; rfl)) (by simp [f0]) rfl (fun t' ht' => ?_)
  refine Stk.gen (fun t H n => ∃ b1, t 1 = .own b1 0 ∧ H b1 = some (.cells (c93 a0) 93) ∧ b1 < n) ⟨n, by simp [ht'], upd_same _ _ _, Nat.lt_succ_self _⟩ ?_
  clear f0 ht' t'
  rintro t H n ⟨b1, f1, b_b1, l_b1⟩
  refine Stk.run 1 (fun t H n => t 1 = .own b1 0 ∧ H b1 = some (.cells (c93 a0) 93) ∧ b1 < n) (fun J hJ => ?_) ?_
  · simp [-splice, f1, b_b1]
    exact hJ _ _ _ ⟨by simp [f1], b_b1, l_b1⟩
  clear f1 b_b1 l_b1
  rintro t H n ⟨f1, b_b1, l_b1⟩
  refine Stk.on ?_
  refine Stk.sq ?_
  refine Stk.sq ?_
  refine Stk.rg ?_
  refine Stk.run 4 (fun t H n => t 1 = .own b1 0 ∧ t 10 = .sc (.bool (decide (a0.Half < 16))) ∧ H b1 = some (.cells (c93 a0) 93) ∧ b1 < n) (fun J hJ => ?_) ?_
  · simp [-splice, f1, b_b1, ld_93_1_3]
    exact hJ _ _ _ ⟨by simp [f1], by simp [-splice, f1, b_b1, ld_93_1_3], b_b1, l_b1⟩
  clear f1 b_b1 l_b1
  rintro t H n ⟨f1, f10, b_b1, l_b1⟩
  refine Stk.jo 4 (fun t H n => t 1 = .own b1 0 ∧ t 14 = .sc (.bool ((decide (a0.Half < 16)) || (decide (16384 < a0.Half)))) ∧ H b1 = some (.cells (c93 a0) 93) ∧ b1 < n) (fun J1 hJ1 => ?_) ?_
  · rcases Bool.eq_false_or_eq_true (decide (a0.Half < 16)) with hb1 | hb1
    · rw [hb1] at f10
      refine Stk.run 4 (fun t H n => t 1 = .own b1 0 ∧ t 14 = .sc (.bool true) ∧ H b1 = some (.cells (c93 a0) 93) ∧ b1 < n) (fun J hJ => ?_) ?_
      · simp [-splice, f1, f10, b_b1]
        exact hJ _ _ _ ⟨by simp [f1], by simp [-splice, f1, f10, b_b1], b_b1, l_b1⟩
      clear f1 f10 b_b1 l_b1
      rintro t H n ⟨f1, f14, b_b1, l_b1⟩
      refine Stk.on ?_
      exact Stk.ln 0 (by decide) (hJ1 _ _ _ ⟨f1, f14.trans (congrArg (fun q => AV.sc (.bool q)) (by rw [hb1]; rfl)), b_b1, l_b1⟩)
    · rw [hb1] at f10
      refine Stk.run 4 (fun t H n => t 1 = .own b1 0 ∧ t 14 = .sc (.bool (decide (16384 < a0.Half))) ∧ H b1 = some (.cells (c93 a0) 93) ∧ b1 < n) (fun J hJ => ?_) ?_
      · simp [-splice, f1, f10, b_b1, ld_93_1_3]
        exact hJ _ _ _ ⟨by simp [f1], by simp [-splice, f1, f10, b_b1, ld_93_1_3], b_b1, l_b1⟩
      clear f1 f10 b_b1 l_b1
      rintro t H n ⟨f1, f14, b_b1, l_b1⟩
      refine Stk.on ?_
      exact Stk.ln 0 (by decide) (hJ1 _ _ _ ⟨f1, f14.trans (congrArg (fun q => AV.sc (.bool q)) (by rw [hb1]; rfl)), b_b1, l_b1⟩)
  clear f1 f10 b_b1 l_b1
  rintro t H n ⟨f1, f14, b_b1, l_b1⟩
  refine Stk.run 1 (fun t H n => t 1 = .own b1 0 ∧ t 15 = .sc (.bool ((decide (a0.Half < 16)) || (decide (16384 < a0.Half)))) ∧ H b1 = some (.cells (c93 a0) 93) ∧ b1 < n) (fun J hJ => ?_) ?_
  · simp [-splice, f1, f14, b_b1]
    exact hJ _ _ _ ⟨by simp [f1], by simp [-splice, f1, f14, b_b1], b_b1, l_b1⟩
  clear f1 f14 b_b1 l_b1
  rintro t H n ⟨f1, f15, b_b1, l_b1⟩
  refine Stk.jo 9 (fun t H n => t 1 = .own b1 0 ∧ t 24 = .sc (.bool (((decide (a0.Half < 16)) || (decide (16384 < a0.Half))) || ((a0.Words.length : Int) != (IntKind.i64.wrap ((IntKind.i64.wrap (2 * a0.Half)) + 1))))) ∧ H b1 = some (.cells (c93 a0) 93) ∧ b1 < n) (fun J2 hJ2 => ?_) ?_
  · rcases Bool.eq_false_or_eq_true ((decide (a0.Half < 16)) || (decide (16384 < a0.Half))) with hb2 | hb2
    · rw [hb2] at f15
      refine Stk.run 9 (fun t H n => t 1 = .own b1 0 ∧ t 24 = .sc (.bool true) ∧ H b1 = some (.cells (c93 a0) 93) ∧ b1 < n) (fun J hJ => ?_) ?_
      · simp [-splice, f1, f15, b_b1]
        exact hJ _ _ _ ⟨by simp [f1], by simp [-splice, f1, f15, b_b1], b_b1, l_b1⟩
      clear f1 f15 b_b1 l_b1
      rintro t H n ⟨f1, f24, b_b1, l_b1⟩
      refine Stk.on ?_
      exact Stk.ln 0 (by decide) (hJ2 _ _ _ ⟨f1, f24.trans (congrArg (fun q => AV.sc (.bool q)) (by rw [hb2]; rfl)), b_b1, l_b1⟩)
    · rw [hb2] at f15
      refine Stk.run 9 (fun t H n => t 1 = .own b1 0 ∧ t 24 = .sc (.bool ((a0.Words.length : Int) != (IntKind.i64.wrap ((IntKind.i64.wrap (2 * a0.Half)) + 1)))) ∧ H b1 = some (.cells (c93 a0) 93) ∧ b1 < n) (fun J hJ => ?_) ?_
      · simp [-splice, f1, f15, b_b1, ld_93_0_39, ld_93_1_3]
        exact hJ _ _ _ ⟨by simp [f1], by simp [-splice, f1, f15, b_b1, ld_93_0_39, ld_93_1_3], b_b1, l_b1⟩
      clear f1 f15 b_b1 l_b1
      rintro t H n ⟨f1, f24, b_b1, l_b1⟩
      refine Stk.on ?_
      exact Stk.ln 0 (by decide) (hJ2 _ _ _ ⟨f1, f24.trans (congrArg (fun q => AV.sc (.bool q)) (by rw [hb2]; rfl)), b_b1, l_b1⟩)
  clear f1 f15 b_b1 l_b1
  rintro t H n ⟨f1, f24, b_b1, l_b1⟩
  refine Stk.run 1 (fun t H n => t 1 = .own b1 0 ∧ t 25 = .sc (.bool (((decide (a0.Half < 16)) || (decide (16384 < a0.Half))) || ((a0.Words.length : Int) != (IntKind.i64.wrap ((IntKind.i64.wrap (2 * a0.Half)) + 1))))) ∧ H b1 = some (.cells (c93 a0) 93) ∧ b1 < n) (fun J hJ => ?_) ?_
  · simp [-splice, f1, f24, b_b1]
    exact hJ _ _ _ ⟨by simp [f1], by simp [-splice, f1, f24, b_b1], b_b1, l_b1⟩
  clear f1 f24 b_b1 l_b1
  rintro t H n ⟨f1, f25, b_b1, l_b1⟩
  obtain ⟨K3, hK3, h⟩ := jnd h
  refine Stk.jo 6 (fun t H n => ∃ v2 : Bool, K3 v2 = some r ∧ t 1 = .own b1 0 ∧ t 31 = .sc (.bool v2) ∧ H b1 = some (.cells (c93 a0) 93) ∧ b1 < n) (fun J3 hJ3 => ?_) ?_
  · rcases Bool.eq_false_or_eq_true (((decide (a0.Half < 16)) || (decide (16384 < a0.Half))) || ((a0.Words.length : Int) != (IntKind.i64.wrap ((IntKind.i64.wrap (2 * a0.Half)) + 1)))) with hb3 | hb3
    · rw [hb3] at f25
      replace h := cT hb3 h
      refine Stk.run 6 (fun t H n => t 1 = .own b1 0 ∧ t 31 = .sc (.bool true) ∧ H b1 = some (.cells (c93 a0) 93) ∧ b1 < n) (fun J hJ => ?_) ?_
      · simp [-splice, f1, f25, b_b1]
        exact hJ _ _ _ ⟨by simp [f1], by simp [-splice, f1, f25, b_b1], b_b1, l_b1⟩
      clear f1 f25 b_b1 l_b1
      rintro t H n ⟨f1, f31, b_b1, l_b1⟩
      refine Stk.on ?_
      exact Stk.ln 0 (by decide) (hJ3 _ _ _ ⟨true, h, f1, f31, b_b1, l_b1⟩)
    · rw [hb3] at f25
      replace h := cF hb3 h
      obtain ⟨x3, hx3, h⟩ := bnd h
      obtain ⟨i0x3, i1x3, i2x3, _⟩ := idx_ok hx3
      have i5x3 : 0 < a0.Words.length := by omega
      have i6x3 : ¬ a0.Words = [] := List.ne_nil_of_length_pos i5x3
      have ex3_0_40 : partOf T.T 40 (encs c40 a0.Words) 0 = some (.sc (.int .u64 x3)) := by
          have e0 := part_elem0 (e := c40) (z := 1) (T := T.T) (ty := 40) T.t40 (by decide) (by decide) hx3 0 (by decide)
          (try simp only [Nat.mul_one, Nat.add_zero, Int.toNat_ofNat, Nat.zero_mul, Nat.zero_add] at e0)
          exact e0.trans rfl
      refine Stk.run 6 (fun t H n => t 1 = .own b1 0 ∧ t 31 = .sc (.bool (x3 != 0)) ∧ H b1 = some (.cells (c93 a0) 93) ∧ b1 < n) (fun J hJ => ?_) ?_
      · simp [-splice, f1, f25, b_b1, ld_93_0_39, i0x3, i1x3, i5x3, i6x3, pd40, ex3_0_40]
        exact hJ _ _ _ ⟨by simp [f1], by simp [-splice, f1, f25, b_b1, ld_93_0_39, i0x3, i1x3, i5x3, i6x3, pd40, ex3_0_40], b_b1, l_b1⟩
      clear f1 f25 b_b1 l_b1
      rintro t H n ⟨f1, f31, b_b1, l_b1⟩
      refine Stk.on ?_
      exact Stk.ln 0 (by decide) (hJ3 _ _ _ ⟨(x3 != 0), h, f1, f31, b_b1, l_b1⟩)
  clear h f1 f25 b_b1 l_b1
  rintro t H n ⟨v2, h, f1, f31, b_b1, l_b1⟩
  subst hK3
  refine Stk.on ?_
  refine Stk.cond v2 (by exact f31) (fun hb4 => ?_) (fun hb4 => ?_)
  · have h := cT hb4 h
    refine Stk.sq ?_
    refine Stk.rg ?_
    refine Stk.run 1 (fun t H n => t 2 = .sc (.bool false)) (fun J hJ => ?_) ?_
    · simp [-splice, f1, f31, b_b1]
      exact hJ _ _ _ (by simp [-splice, f1, f31, b_b1])
    clear f1 f31 b_b1 l_b1
    rintro t H n f2
    refine Stk.on ?_
    refine Stk.rt ?_
    have hq := Option.some.inj h; subst hq
    exact (hr _ _ _ (.sc (.bool false)) ([]) (by simp [f2]) (.inr (.inr (.free (rfl))))).1
  · have h := cF hb4 h
    refine Stk.sk ?_
    refine Stk.sq ?_
    refine Stk.rg ?_
    refine Stk.run 1 (fun t H n => t 1 = .own b1 0 ∧ t 32 = .agg (c93 a0) ∧ H b1 = some (.cells (c93 a0) 93) ∧ b1 < n) (fun J hJ => ?_) ?_
    · simp [-splice, f1, f31, b_b1, ld_93_0_93]
      exact hJ _ _ _ ⟨by simp [f1], by simp [-splice, f1, f31, b_b1, ld_93_0_93], b_b1, l_b1⟩
    clear f1 f31 b_b1 l_b1
    rintro t H n ⟨f1, f32, b_b1, l_b1⟩
    obtain ⟨x5, hx5, h⟩ := bnd h
    refine Stk.cv (g := 95) (args := [.agg (c93 a0)]) (args' := [.agg (c93 a0)]) (v := .sc (.int .i64 x5)) [] (ok_heap_begin F _ _ hx5) (by simp [f1, f32]) rfl rfl (by simp [f1, f32]) (.cons (.free (fr93 _)) (.nil)) (.inl ⟨rfl, rfl⟩) (fun t' ht' => ?_)
    refine Stk.gen (fun t H n => t 1 = .own b1 0 ∧ t 33 = .sc (.int .i64 x5) ∧ H b1 = some (.cells (c93 a0) 93) ∧ b1 < n) ⟨by simp [ht', f1], by simp [ht'], b_b1, l_b1⟩ ?_
    clear f1 f32 b_b1 l_b1 ht' t'
    rintro t H n ⟨f1, f33, b_b1, l_b1⟩
    refine Stk.run 1 (fun t H n => t 1 = .own b1 0 ∧ t 3 = .sc (.int .i64 x5) ∧ H b1 = some (.cells (c93 a0) 93) ∧ b1 < n) (fun J hJ => ?_) ?_
    · simp [-splice, f1, f33, b_b1]
      exact hJ _ _ _ ⟨by simp [f1], by simp [-splice, f1, f33, b_b1], b_b1, l_b1⟩
    clear f1 f33 b_b1 l_b1
    rintro t H n ⟨f1, f3, b_b1, l_b1⟩
    refine Stk.on ?_
    refine Stk.sq ?_
    refine Stk.sq ?_
    refine Stk.rg ?_
    refine Stk.run 5 (fun t H n => t 1 = .own b1 0 ∧ t 3 = .sc (.int .i64 x5) ∧ t 38 = .sc (.bool (decide (a0.Next < x5))) ∧ H b1 = some (.cells (c93 a0) 93) ∧ b1 < n) (fun J hJ => ?_) ?_
    · simp [-splice, f1, f3, b_b1, ld_93_3_3]
      exact hJ _ _ _ ⟨by simp [f1], by simp [f3], by simp [-splice, f1, f3, b_b1, ld_93_3_3], b_b1, l_b1⟩
    clear f1 f3 b_b1 l_b1
    rintro t H n ⟨f1, f3, f38, b_b1, l_b1⟩
    refine Stk.jo 8 (fun t H n => t 1 = .own b1 0 ∧ t 3 = .sc (.int .i64 x5) ∧ t 46 = .sc (.bool ((decide (a0.Next < x5)) || (decide (a0.Half < (IntKind.i64.wrap (a0.Next - x5)))))) ∧ H b1 = some (.cells (c93 a0) 93) ∧ b1 < n) (fun J4 hJ4 => ?_) ?_
    · rcases Bool.eq_false_or_eq_true (decide (a0.Next < x5)) with hb4 | hb4
      · rw [hb4] at f38
        refine Stk.run 8 (fun t H n => t 1 = .own b1 0 ∧ t 3 = .sc (.int .i64 x5) ∧ t 46 = .sc (.bool true) ∧ H b1 = some (.cells (c93 a0) 93) ∧ b1 < n) (fun J hJ => ?_) ?_
        · simp [-splice, f1, f3, f38, b_b1]
          exact hJ _ _ _ ⟨by simp [f1], by simp [f3], by simp [-splice, f1, f3, f38, b_b1], b_b1, l_b1⟩
        clear f1 f3 f38 b_b1 l_b1
        rintro t H n ⟨f1, f3, f46, b_b1, l_b1⟩
        refine Stk.on ?_
        exact Stk.ln 0 (by decide) (hJ4 _ _ _ ⟨f1, f3, f46.trans (congrArg (fun q => AV.sc (.bool q)) (by rw [hb4]; rfl)), b_b1, l_b1⟩)
      · rw [hb4] at f38
        refine Stk.run 8 (fun t H n => t 1 = .own b1 0 ∧ t 3 = .sc (.int .i64 x5) ∧ t 46 = .sc (.bool (decide (a0.Half < (IntKind.i64.wrap (a0.Next - x5))))) ∧ H b1 = some (.cells (c93 a0) 93) ∧ b1 < n) (fun J hJ => ?_) ?_
        · simp [-splice, f1, f3, f38, b_b1, ld_93_3_3, ld_93_1_3]
          exact hJ _ _ _ ⟨by simp [f1], by simp [f3], by simp [-splice, f1, f3, f38, b_b1, ld_93_3_3, ld_93_1_3], b_b1, l_b1⟩
        clear f1 f3 f38 b_b1 l_b1
        rintro t H n ⟨f1, f3, f46, b_b1, l_b1⟩
        refine Stk.on ?_
        exact Stk.ln 0 (by decide) (hJ4 _ _ _ ⟨f1, f3, f46.trans (congrArg (fun q => AV.sc (.bool q)) (by rw [hb4]; rfl)), b_b1, l_b1⟩)
    clear f1 f3 f38 b_b1 l_b1
    rintro t H n ⟨f1, f3, f46, b_b1, l_b1⟩
    refine Stk.on ?_
    refine Stk.cond ((decide (a0.Next < x5)) || (decide (a0.Half < (IntKind.i64.wrap (a0.Next - x5))))) (by exact f46) (fun hb6 => ?_) (fun hb6 => ?_)
    · have h := cT hb6 h
      refine Stk.sq ?_
      refine Stk.rg ?_
      refine Stk.run 1 (fun t H n => t 2 = .sc (.bool false)) (fun J hJ => ?_) ?_
      · simp [-splice, f1, f3, f46, b_b1]
        exact hJ _ _ _ (by simp [-splice, f1, f3, f46, b_b1])
      clear f1 f3 f46 b_b1 l_b1
      rintro t H n f2
      refine Stk.on ?_
      refine Stk.rt ?_
      have hq := Option.some.inj h; subst hq
      exact (hr _ _ _ (.sc (.bool false)) ([]) (by simp [f2]) (.inr (.inr (.free (rfl))))).1
    · have h := cF hb6 h
      refine Stk.sk ?_
      refine Stk.sq ?_
      refine Stk.rg ?_
      refine Stk.run 1 (fun t H n => t 1 = .own b1 0 ∧ t 3 = .sc (.int .i64 x5) ∧ t 4 = .sc (.bool false) ∧ H b1 = some (.cells (c93 a0) 93) ∧ b1 < n) (fun J hJ => ?_) ?_
      · simp [-splice, f1, f3, f46, b_b1]
        exact hJ _ _ _ ⟨by simp [f1], by simp [f3], by simp [-splice, f1, f3, f46, b_b1], b_b1, l_b1⟩
      clear f1 f3 f46 b_b1 l_b1
      rintro t H n ⟨f1, f3, f4, b_b1, l_b1⟩
      refine Stk.on ?_
      refine Stk.sq ?_
      obtain ⟨K5, hK5, h⟩ := jnd h
      refine Stk.jn (fun t H n => ∃ v7 : Bool, K5 v7 = some r ∧ t 1 = .own b1 0 ∧ t 4 = .sc (.bool v7) ∧ H b1 = some (.cells (c93 a0) 93) ∧ b1 < n) trivial (fun J5 hJ5 => ?_) ?_
      · skip
        refine Stk.bk ?_
        refine Stk.lo (fun μ t H n => ∃ v8 : Int, ∃ v9 : Bool, heap_Fit_L0 F a0 K5 μ v8 v9 = some r ∧ t 1 = .own b1 0 ∧ t 3 = .sc (.int .i64 v8) ∧ t 4 = .sc (.bool v9) ∧ H b1 = some (.cells (c93 a0) 93) ∧ b1 < n) F ⟨x5, false, h, f1, f3, f4, b_b1, l_b1⟩ ?_
        clear h f1 f3 f4 b_b1 l_b1
        rintro J6 hJ6 μ t H n ⟨v8, v9, h, f1, f3, f4, b_b1, l_b1⟩
        cases μ with
        | zero => exact absurd h (by simp [heap_Fit_L0])
        | succ μ =>
        rw [heap_Fit_L0] at h
        refine Stk.sq ?_
        refine Stk.sq ?_
        refine Stk.rg ?_
        refine Stk.run 4 (fun t H n => t 1 = .own b1 0 ∧ t 3 = .sc (.int .i64 v8) ∧ t 4 = .sc (.bool v9) ∧ t 50 = .sc (.bool (decide (v8 < a0.Next))) ∧ H b1 = some (.cells (c93 a0) 93) ∧ b1 < n) (fun J hJ => ?_) ?_
        · simp [-splice, f1, f3, f4, b_b1, ld_93_3_3]
          exact hJ _ _ _ ⟨by simp [f1], by simp [f3], by simp [f4], by simp [-splice, f1, f3, f4, b_b1, ld_93_3_3], b_b1, l_b1⟩
        clear f1 f3 f4 b_b1 l_b1
        rintro t H n ⟨f1, f3, f4, f50, b_b1, l_b1⟩
        refine Stk.on ?_
        refine Stk.cond (decide (v8 < a0.Next)) (by exact f50) (fun hb12 => ?_) (fun hb12 => ?_)
        · have h := cT hb12 h
          refine Stk.sk ?_
          refine Stk.bk ?_
          refine Stk.sq ?_
          refine Stk.rg ?_
          obtain ⟨x13, hx13, h⟩ := bnd h
          obtain ⟨i0x13, i1x13, i2x13, _⟩ := idx_ok hx13
          have ex13_0_40 : partOf T.T 40 (encs c40 a0.Words) (v8.toNat) = some (.sc (.int .u64 x13)) := by
              have e0 := part_elem0 (e := c40) (z := 1) (T := T.T) (ty := 40) T.t40 (by decide) (by decide) hx13 0 (by decide)
              (try simp only [Nat.mul_one, Nat.add_zero] at e0)
              exact e0.trans rfl
          refine Stk.run 5 (fun t H n => t 1 = .own b1 0 ∧ t 3 = .sc (.int .i64 v8) ∧ t 4 = .sc (.bool v9) ∧ t 56 = .sc (.int .u64 x13) ∧ H b1 = some (.cells (c93 a0) 93) ∧ b1 < n) (fun J hJ => ?_) ?_
          · simp [-splice, f1, f3, f4, f50, b_b1, ld_93_0_39, i0x13, i1x13, pd40, ex13_0_40]
            exact hJ _ _ _ ⟨by simp [f1], by simp [f3], by simp [f4], by simp [-splice, f1, f3, f4, f50, b_b1, ld_93_0_39, i0x13, i1x13, pd40, ex13_0_40], b_b1, l_b1⟩
          clear f1 f3 f4 f50 b_b1 l_b1
          rintro t H n ⟨f1, f3, f4, f56, b_b1, l_b1⟩
          obtain ⟨x14, hx14, h⟩ := bnd h
          refine Stk.cv (g := 57) (args := [.sc (.int .u64 x13)]) (args' := [.sc (.int .u64 x13)]) (v := .tup [.agg (c34 x14.1), .sc (.bool x14.2)]) [] (ok_heap_Read F _ _ hx14) (by simp [f1, f3, f4, f56]) rfl rfl (by simp [f1, f3, f4, f56]) (.cons (.free (rfl)) (.nil)) (.inl ⟨rfl, by simp [free, freeL, fr34]⟩) (fun t' ht' => ?_)
          refine Stk.gen (fun t H n => t 1 = .own b1 0 ∧ t 3 = .sc (.int .i64 v8) ∧ t 4 = .sc (.bool v9) ∧ t 57 = .tup [.agg (c34 x14.1), .sc (.bool x14.2)] ∧ H b1 = some (.cells (c93 a0) 93) ∧ b1 < n) ⟨by simp [ht', f1], by simp [ht', f3], by simp [ht', f4], by simp [ht'], b_b1, l_b1⟩ ?_
          clear f1 f3 f4 f56 b_b1 l_b1 ht' t'
          rintro t H n ⟨f1, f3, f4, f57, b_b1, l_b1⟩
          refine Stk.run 3 (fun t H n => t 1 = .own b1 0 ∧ t 3 = .sc (.int .i64 v8) ∧ t 4 = .sc (.bool v9) ∧ t 58 = .agg (c34 x14.1) ∧ t 59 = .sc (.bool x14.2) ∧ H b1 = some (.cells (c93 a0) 93) ∧ b1 < n) (fun J hJ => ?_) ?_
          · simp [-splice, f1, f3, f4, f57, b_b1]
            exact hJ _ _ _ ⟨by simp [f1], by simp [f3], by simp [f4], by simp [-splice, f1, f3, f4, f57, b_b1], by simp [-splice, f1, f3, f4, f57, b_b1], b_b1, l_b1⟩
          clear f1 f3 f4 f57 b_b1 l_b1
          rintro t H n ⟨f1, f3, f4, f58, f59, b_b1, l_b1⟩
          refine Stk.om (mop_alloc T.t34 (cs := c34 (api_Head.mk 0 0 0)) rfl) (by simp [f1, f3, f4, f58, f59]) rfl (fun t' ht' => ?_)
          refine Stk.gen (fun t H n => ∃ b15, t 1 = .own b1 0 ∧ t 3 = .sc (.int .i64 v8) ∧ t 4 = .sc (.bool v9) ∧ t 5 = .own b15 0 ∧ t 58 = .agg (c34 x14.1) ∧ t 59 = .sc (.bool x14.2) ∧ H b1 = some (.cells (c93 a0) 93) ∧ b1 < n ∧ H b15 = some (.cells (c34 (api_Head.mk 0 0 0)) 34) ∧ b15 < n ∧ b1 ≠ b15) ⟨n, by simp [ht', f1], by simp [ht', f3], by simp [ht', f4], by simp [ht'], by simp [ht', f58], by simp [ht', f59], (upd_ne _ _ (Nat.ne_of_lt l_b1)).trans b_b1, Nat.lt_succ_of_lt l_b1, upd_same _ _ _, Nat.lt_succ_self _, Nat.ne_of_lt l_b1⟩ ?_
          clear f1 f3 f4 f58 f59 b_b1 l_b1 ht' t'
          rintro t H n ⟨b15, f1, f3, f4, f5, f58, f59, b_b1, l_b1, b_b15, l_b15, d_b1_b15⟩
          refine Stk.om (mop_store (z := 3) rfl f5 b_b15 f58 (len34 _) (by rw [len34]; decide) (ok34 _) (st_34_0_34 _ _)) (by simp [f1, f3, f4, f5, f58, f59]) rfl (fun t' ht' => ?_)
          refine Stk.gen (fun t H n => t 1 = .own b1 0 ∧ t 3 = .sc (.int .i64 v8) ∧ t 4 = .sc (.bool v9) ∧ t 5 = .own b15 0 ∧ t 59 = .sc (.bool x14.2) ∧ H b1 = some (.cells (c93 a0) 93) ∧ b1 < n ∧ H b15 = some (.cells (c34 x14.1) 34) ∧ b15 < n ∧ b1 ≠ b15) ⟨by simp [ht', f1], by simp [ht', f3], by simp [ht', f4], by simp [ht', f5], by simp [ht', f59], (upd_ne _ _ d_b1_b15).trans b_b1, l_b1, upd_same _ _ _, l_b15, d_b1_b15⟩ ?_
          clear f1 f3 f4 f5 f58 f59 b_b1 l_b1 b_b15 l_b15 d_b1_b15 ht' t'
          rintro t H n ⟨f1, f3, f4, f5, f59, b_b1, l_b1, b_b15, l_b15, d_b1_b15⟩
          refine Stk.run 1 (fun t H n => t 1 = .own b1 0 ∧ t 3 = .sc (.int .i64 v8) ∧ t 4 = .sc (.bool v9) ∧ t 5 = .own b15 0 ∧ t 6 = .sc (.bool x14.2) ∧ H b1 = some (.cells (c93 a0) 93) ∧ b1 < n ∧ H b15 = some (.cells (c34 x14.1) 34) ∧ b15 < n ∧ b1 ≠ b15) (fun J hJ => ?_) ?_
          · simp [-splice, f1, f3, f4, f5, f59, b_b1, b_b15]
            exact hJ _ _ _ ⟨by simp [f1], by simp [f3], by simp [f4], by simp [f5], by simp [-splice, f1, f3, f4, f5, f59, b_b1, b_b15], b_b1, l_b1, b_b15, l_b15, d_b1_b15⟩
          clear f1 f3 f4 f5 f59 b_b1 l_b1 b_b15 l_b15 d_b1_b15
          rintro t H n ⟨f1, f3, f4, f5, f6, b_b1, l_b1, b_b15, l_b15, d_b1_b15⟩
          refine Stk.on ?_
          refine Stk.sq ?_
          refine Stk.sq ?_
          obtain ⟨n0, hn0⟩ : ∃ m, m = n := ⟨n, rfl⟩
          have ln0 : n0 ≤ n := Nat.le_of_eq hn0
          refine Stk.rgD [.rd [], .rd [], .rd [], .rd [], .rd [b15], .rd [], .rd [], .rd [], .rd [b1], .rd [], .rd [], .rd [], .rd [], .rd [b1], .rd [], .rd [], .rd [], .rd [], .rd [], .rd [], .rd [], .rd [], .rd []] none (by kernel_rfl) (by rfl) rfl (by simp [below, hn0, l_b1, hn0, l_b15]) rfl ?_
          refine Stk.runD 3 (fun t H n => t 1 = .own b1 0 ∧ t 3 = .sc (.int .i64 v8) ∧ t 4 = .sc (.bool v9) ∧ t 5 = .own b15 0 ∧ t 62 = .sc (.bool (!x14.2)) ∧ H b1 = some (.cells (c93 a0) 93) ∧ b1 < n ∧ H b15 = some (.cells (c34 x14.1) 34) ∧ b15 < n ∧ b1 ≠ b15 ∧ n0 ≤ n) (fun J hJ => ?_) ?_
          · simp [-splice, f1, f3, f4, f5, f6, b_b1, b_b15]
            exact hJ _ _ _ ⟨by simp [f1], by simp [f3], by simp [f4], by simp [f5], by simp [-splice, f1, f3, f4, f5, f6, b_b1, b_b15], b_b1, l_b1, b_b15, l_b15, d_b1_b15, ln0⟩
          clear f1 f3 f4 f5 f6 b_b1 l_b1 b_b15 l_b15 d_b1_b15 ln0
          rintro t H n ⟨f1, f3, f4, f5, f62, b_b1, l_b1, b_b15, l_b15, d_b1_b15, ln0⟩
          obtain ⟨K7, hK7, h⟩ := jnd h
          refine Stk.jd 8 (fun t H n => ∃ v16 : Bool, K7 v16 = some r ∧ t 1 = .own b1 0 ∧ t 3 = .sc (.int .i64 v8) ∧ t 4 = .sc (.bool v9) ∧ t 5 = .own b15 0 ∧ t 70 = .sc (.bool v16) ∧ H b1 = some (.cells (c93 a0) 93) ∧ b1 < n ∧ H b15 = some (.cells (c34 x14.1) 34) ∧ b15 < n ∧ b1 ≠ b15) (fun J7 hJ7 => ?_) ?_
          · rcases Bool.eq_false_or_eq_true (!x14.2) with hb7 | hb7
            · rw [hb7] at f62
              replace h := cT hb7 h
              refine Stk.runD 8 (fun t H n => t 1 = .own b1 0 ∧ t 3 = .sc (.int .i64 v8) ∧ t 4 = .sc (.bool v9) ∧ t 5 = .own b15 0 ∧ t 70 = .sc (.bool true) ∧ H b1 = some (.cells (c93 a0) 93) ∧ b1 < n ∧ H b15 = some (.cells (c34 x14.1) 34) ∧ b15 < n ∧ b1 ≠ b15 ∧ n0 ≤ n) (fun J hJ => ?_) ?_
              · simp [-splice, f1, f3, f4, f5, f62, b_b1, b_b15]
                exact hJ _ _ _ ⟨by simp [f1], by simp [f3], by simp [f4], by simp [f5], by simp [-splice, f1, f3, f4, f5, f62, b_b1, b_b15], b_b1, l_b1, b_b15, l_b15, d_b1_b15, ln0⟩
              clear f1 f3 f4 f5 f62 b_b1 l_b1 b_b15 l_b15 d_b1_b15 ln0
              rintro t H n ⟨f1, f3, f4, f5, f70, b_b1, l_b1, b_b15, l_b15, d_b1_b15, ln0⟩
              refine Stk.onD ?_
              exact Stk.ln 0 (by decide) (hJ7 _ _ _ ⟨true, h, f1, f3, f4, f5, f70, b_b1, l_b1, b_b15, l_b15, d_b1_b15⟩)
            · rw [hb7] at f62
              replace h := cF hb7 h
              refine Stk.runD 2 (fun t H n => t 1 = .own b1 0 ∧ t 3 = .sc (.int .i64 v8) ∧ t 4 = .sc (.bool v9) ∧ t 5 = .own b15 0 ∧ t 62 = .sc (.bool false) ∧ t 63 = .sc (.int .i64 v8) ∧ t 64 = .agg (c34 x14.1) ∧ H b1 = some (.cells (c93 a0) 93) ∧ b1 < n ∧ H b15 = some (.cells (c34 x14.1) 34) ∧ b15 < n ∧ b1 ≠ b15 ∧ n0 ≤ n) (fun J hJ => ?_) ?_
              · simp [-splice, f1, f3, f4, f5, f62, b_b1, b_b15, ld_34_0_34]
                exact hJ _ _ _ ⟨by simp [f1], by simp [f3], by simp [f4], by simp [f5], by simp [f62], by simp [-splice, f1, f3, f4, f5, f62, b_b1, b_b15, ld_34_0_34], by simp [-splice, f1, f3, f4, f5, f62, b_b1, b_b15, ld_34_0_34], b_b1, l_b1, b_b15, l_b15, d_b1_b15, ln0⟩
              clear f1 f3 f4 f5 f62 b_b1 l_b1 b_b15 l_b15 d_b1_b15 ln0
              rintro t H n ⟨f1, f3, f4, f5, f62, f63, f64, b_b1, l_b1, b_b15, l_b15, d_b1_b15, ln0⟩
              obtain ⟨x17, hx17, h⟩ := bnd h
              refine Stk.cvD (g := 49) (args := [.agg (c34 x14.1)]) (args' := [.agg (c34 x14.1)]) (v := .sc (.int .i64 x17)) [] (ok_heap_Size F _ _ hx17) rfl (by simp) rfl (by simp [f1, f3, f4, f5, f62, f63, f64]) rfl rfl (by simp [f1, f3, f4, f5, f62, f63, f64]) (.cons (.free (fr34 _)) (.nil)) (.inl ⟨rfl, rfl⟩) (fun t' ht' => ?_)
              refine Stk.gen (fun t H n => t 1 = .own b1 0 ∧ t 3 = .sc (.int .i64 v8) ∧ t 4 = .sc (.bool v9) ∧ t 5 = .own b15 0 ∧ t 62 = .sc (.bool false) ∧ t 63 = .sc (.int .i64 v8) ∧ t 65 = .sc (.int .i64 x17) ∧ H b1 = some (.cells (c93 a0) 93) ∧ b1 < n ∧ H b15 = some (.cells (c34 x14.1) 34) ∧ b15 < n ∧ b1 ≠ b15 ∧ n0 ≤ n) ⟨by simp [ht', f1], by simp [ht', f3], by simp [ht', f4], by simp [ht', f5], by simp [ht', f62], by simp [ht', f63], by simp [ht'], b_b1, l_b1, b_b15, l_b15, d_b1_b15, ln0⟩ ?_
              clear f1 f3 f4 f5 f62 f63 f64 b_b1 l_b1 b_b15 l_b15 d_b1_b15 ln0 ht' t'
              rintro t H n ⟨f1, f3, f4, f5, f62, f63, f65, b_b1, l_b1, b_b15, l_b15, d_b1_b15, ln0⟩
              refine Stk.runD 5 (fun t H n => t 1 = .own b1 0 ∧ t 3 = .sc (.int .i64 v8) ∧ t 4 = .sc (.bool v9) ∧ t 5 = .own b15 0 ∧ t 70 = .sc (.bool (decide (a0.Next < (IntKind.i64.wrap (v8 + x17))))) ∧ H b1 = some (.cells (c93 a0) 93) ∧ b1 < n ∧ H b15 = some (.cells (c34 x14.1) 34) ∧ b15 < n ∧ b1 ≠ b15 ∧ n0 ≤ n) (fun J hJ => ?_) ?_
              · simp [-splice, f1, f3, f4, f5, f62, f63, f65, b_b1, b_b15, ld_93_3_3]
                exact hJ _ _ _ ⟨by simp [f1], by simp [f3], by simp [f4], by simp [f5], by simp [-splice, f1, f3, f4, f5, f62, f63, f65, b_b1, b_b15, ld_93_3_3], b_b1, l_b1, b_b15, l_b15, d_b1_b15, ln0⟩
              clear f1 f3 f4 f5 f62 f63 f65 b_b1 l_b1 b_b15 l_b15 d_b1_b15 ln0
              rintro t H n ⟨f1, f3, f4, f5, f70, b_b1, l_b1, b_b15, l_b15, d_b1_b15, ln0⟩
              refine Stk.onD ?_
              exact Stk.ln 0 (by decide) (hJ7 _ _ _ ⟨(decide (a0.Next < (IntKind.i64.wrap (v8 + x17)))), h, f1, f3, f4, f5, f70, b_b1, l_b1, b_b15, l_b15, d_b1_b15⟩)
          clear h f1 f3 f4 f5 f62 b_b1 l_b1 b_b15 l_b15 d_b1_b15 ln0
          rintro t H n ⟨v16, h, f1, f3, f4, f5, f70, b_b1, l_b1, b_b15, l_b15, d_b1_b15⟩
          subst hK7
          refine Stk.runD 1 (fun t H n => t 1 = .own b1 0 ∧ t 3 = .sc (.int .i64 v8) ∧ t 4 = .sc (.bool v9) ∧ t 5 = .own b15 0 ∧ t 71 = .sc (.bool v16) ∧ H b1 = some (.cells (c93 a0) 93) ∧ b1 < n ∧ H b15 = some (.cells (c34 x14.1) 34) ∧ b15 < n ∧ b1 ≠ b15) (fun J hJ => ?_) ?_
          · simp [-splice, f1, f3, f4, f5, f70, b_b1, b_b15]
            exact hJ _ _ _ ⟨by simp [f1], by simp [f3], by simp [f4], by simp [f5], by simp [-splice, f1, f3, f4, f5, f70, b_b1, b_b15], b_b1, l_b1, b_b15, l_b15, d_b1_b15⟩
          clear f1 f3 f4 f5 f70 b_b1 l_b1 b_b15 l_b15 d_b1_b15
          rintro t H n ⟨f1, f3, f4, f5, f71, b_b1, l_b1, b_b15, l_b15, d_b1_b15⟩
          obtain ⟨K8, hK8, h⟩ := jnd h
          refine Stk.jd 11 (fun t H n => ∃ v18 : Bool, K8 v18 = some r ∧ t 1 = .own b1 0 ∧ t 3 = .sc (.int .i64 v8) ∧ t 4 = .sc (.bool v9) ∧ t 5 = .own b15 0 ∧ t 82 = .sc (.bool v18) ∧ H b1 = some (.cells (c93 a0) 93) ∧ b1 < n ∧ H b15 = some (.cells (c34 x14.1) 34) ∧ b15 < n ∧ b1 ≠ b15) (fun J8 hJ8 => ?_) ?_
          · rcases Bool.eq_false_or_eq_true v16 with hb8 | hb8
            · rw [hb8] at f71
              replace h := cT hb8 h
              refine Stk.runD 11 (fun t H n => t 1 = .own b1 0 ∧ t 3 = .sc (.int .i64 v8) ∧ t 4 = .sc (.bool v9) ∧ t 5 = .own b15 0 ∧ t 82 = .sc (.bool true) ∧ H b1 = some (.cells (c93 a0) 93) ∧ b1 < n ∧ H b15 = some (.cells (c34 x14.1) 34) ∧ b15 < n ∧ b1 ≠ b15) (fun J hJ => ?_) ?_
              · simp [-splice, f1, f3, f4, f5, f71, b_b1, b_b15]
                exact hJ _ _ _ ⟨by simp [f1], by simp [f3], by simp [f4], by simp [f5], by simp [-splice, f1, f3, f4, f5, f71, b_b1, b_b15], b_b1, l_b1, b_b15, l_b15, d_b1_b15⟩
              clear f1 f3 f4 f5 f71 b_b1 l_b1 b_b15 l_b15 d_b1_b15
              rintro t H n ⟨f1, f3, f4, f5, f82, b_b1, l_b1, b_b15, l_b15, d_b1_b15⟩
              refine Stk.onD ?_
              exact Stk.ln 0 (by decide) (hJ8 _ _ _ ⟨true, h, f1, f3, f4, f5, f82, b_b1, l_b1, b_b15, l_b15, d_b1_b15⟩)
            · rw [hb8] at f71
              replace h := cF hb8 h
              obtain ⟨x19, hx19, h⟩ := bnd h
              obtain ⟨i0x19, i1x19, i2x19, _⟩ := idx_ok hx19
              have ex19_0_40 : partOf T.T 40 (encs c40 a0.Words) ((IntKind.i64.wrap (v8 + 1)).toNat) = some (.sc (.int .u64 x19)) := by
                  have e0 := part_elem0 (e := c40) (z := 1) (T := T.T) (ty := 40) T.t40 (by decide) (by decide) hx19 0 (by decide)
                  (try simp only [Nat.mul_one, Nat.add_zero] at e0)
                  exact e0.trans rfl
              refine Stk.runD 8 (fun t H n => t 1 = .own b1 0 ∧ t 3 = .sc (.int .i64 v8) ∧ t 4 = .sc (.bool v9) ∧ t 5 = .own b15 0 ∧ t 71 = .sc (.bool false) ∧ t 77 = .sc (.int .u64 x19) ∧ t 79 = .sc (.int .u32 (IntKind.u32.wrap v8)) ∧ H b1 = some (.cells (c93 a0) 93) ∧ b1 < n ∧ H b15 = some (.cells (c34 x14.1) 34) ∧ b15 < n ∧ b1 ≠ b15) (fun J hJ => ?_) ?_
              · simp [-splice, f1, f3, f4, f5, f71, b_b1, b_b15, ld_93_0_39, i0x19, i1x19, pd40, ex19_0_40]
                exact hJ _ _ _ ⟨by simp [f1], by simp [f3], by simp [f4], by simp [f5], by simp [f71], by simp [-splice, f1, f3, f4, f5, f71, b_b1, b_b15, ld_93_0_39, i0x19, i1x19, pd40, ex19_0_40], by simp [-splice, f1, f3, f4, f5, f71, b_b1, b_b15, ld_93_0_39, i0x19, i1x19, pd40, ex19_0_40], b_b1, l_b1, b_b15, l_b15, d_b1_b15⟩
              clear f1 f3 f4 f5 f71 b_b1 l_b1 b_b15 l_b15 d_b1_b15
              rintro t H n ⟨f1, f3, f4, f5, f71, f77, f79, b_b1, l_b1, b_b15, l_b15, d_b1_b15⟩
              obtain ⟨x20, hx20, h⟩ := bnd h
              refine Stk.cvD (g := 41) (args := [.sc (.int .u32 (IntKind.u32.wrap v8))]) (args' := [.sc (.int .u32 (IntKind.u32.wrap v8))]) (v := .sc (.int .u64 x20)) [] (ok_word_Ptr F _ _ hx20) rfl (by simp) rfl (by simp [f1, f3, f4, f5, f71, f77, f79]) rfl rfl (by simp [f1, f3, f4, f5, f71, f77, f79]) (.cons (.free (rfl)) (.nil)) (.inl ⟨rfl, rfl⟩) (fun t' ht' => ?_)
              refine Stk.gen (fun t H n => t 1 = .own b1 0 ∧ t 3 = .sc (.int .i64 v8) ∧ t 4 = .sc (.bool v9) ∧ t 5 = .own b15 0 ∧ t 71 = .sc (.bool false) ∧ t 77 = .sc (.int .u64 x19) ∧ t 80 = .sc (.int .u64 x20) ∧ H b1 = some (.cells (c93 a0) 93) ∧ b1 < n ∧ H b15 = some (.cells (c34 x14.1) 34) ∧ b15 < n ∧ b1 ≠ b15) ⟨by simp [ht', f1], by simp [ht', f3], by simp [ht', f4], by simp [ht', f5], by simp [ht', f71], by simp [ht', f77], by simp [ht'], b_b1, l_b1, b_b15, l_b15, d_b1_b15⟩ ?_
              clear f1 f3 f4 f5 f71 f77 f79 b_b1 l_b1 b_b15 l_b15 d_b1_b15 ht' t'
              rintro t H n ⟨f1, f3, f4, f5, f71, f77, f80, b_b1, l_b1, b_b15, l_b15, d_b1_b15⟩
              refine Stk.runD 2 (fun t H n => t 1 = .own b1 0 ∧ t 3 = .sc (.int .i64 v8) ∧ t 4 = .sc (.bool v9) ∧ t 5 = .own b15 0 ∧ t 82 = .sc (.bool (x19 != x20)) ∧ H b1 = some (.cells (c93 a0) 93) ∧ b1 < n ∧ H b15 = some (.cells (c34 x14.1) 34) ∧ b15 < n ∧ b1 ≠ b15) (fun J hJ => ?_) ?_
              · simp [-splice, f1, f3, f4, f5, f71, f77, f80, b_b1, b_b15]
                exact hJ _ _ _ ⟨by simp [f1], by simp [f3], by simp [f4], by simp [f5], by simp [-splice, f1, f3, f4, f5, f71, f77, f80, b_b1, b_b15], b_b1, l_b1, b_b15, l_b15, d_b1_b15⟩
              clear f1 f3 f4 f5 f71 f77 f80 b_b1 l_b1 b_b15 l_b15 d_b1_b15
              rintro t H n ⟨f1, f3, f4, f5, f82, b_b1, l_b1, b_b15, l_b15, d_b1_b15⟩
              refine Stk.onD ?_
              exact Stk.ln 0 (by decide) (hJ8 _ _ _ ⟨(x19 != x20), h, f1, f3, f4, f5, f82, b_b1, l_b1, b_b15, l_b15, d_b1_b15⟩)
          clear h f1 f3 f4 f5 f71 b_b1 l_b1 b_b15 l_b15 d_b1_b15
          rintro t H n ⟨v18, h, f1, f3, f4, f5, f82, b_b1, l_b1, b_b15, l_b15, d_b1_b15⟩
          subst hK8
          refine Stk.onD ?_
          refine Stk.cond v18 (by exact f82) (fun hb21 => ?_) (fun hb21 => ?_)
          · have h := cT hb21 h
            refine Stk.sq ?_
            refine Stk.rg ?_
            refine Stk.run 1 (fun t H n => t 2 = .sc (.bool false)) (fun J hJ => ?_) ?_
            · simp [-splice, f1, f3, f4, f5, f82, b_b1, b_b15]
              exact hJ _ _ _ (by simp [-splice, f1, f3, f4, f5, f82, b_b1, b_b15])
            clear f1 f3 f4 f5 f82 b_b1 l_b1 b_b15 l_b15 d_b1_b15
            rintro t H n f2
            refine Stk.on ?_
            refine Stk.rt ?_
            have hq := Option.some.inj h; subst hq
            exact (hr _ _ _ (.sc (.bool false)) ([]) (by simp [f2]) (.inr (.inr (.free (rfl))))).1
          · have h := cF hb21 h
            refine Stk.sk ?_
            refine Stk.sq ?_
            refine Stk.rg ?_
            refine Stk.run 2 (fun t H n => t 1 = .own b1 0 ∧ t 3 = .sc (.int .i64 v8) ∧ t 5 = .own b15 0 ∧ t 84 = .sc (.bool v9) ∧ H b1 = some (.cells (c93 a0) 93) ∧ b1 < n ∧ H b15 = some (.cells (c34 x14.1) 34) ∧ b15 < n ∧ b1 ≠ b15) (fun J hJ => ?_) ?_
            · simp [-splice, f1, f3, f4, f5, f82, b_b1, b_b15]
              exact hJ _ _ _ ⟨by simp [f1], by simp [f3], by simp [f5], by simp [-splice, f1, f3, f4, f5, f82, b_b1, b_b15], b_b1, l_b1, b_b15, l_b15, d_b1_b15⟩
            clear f1 f3 f4 f5 f82 b_b1 l_b1 b_b15 l_b15 d_b1_b15
            rintro t H n ⟨f1, f3, f5, f84, b_b1, l_b1, b_b15, l_b15, d_b1_b15⟩
            refine Stk.jo 5 (fun t H n => t 1 = .own b1 0 ∧ t 3 = .sc (.int .i64 v8) ∧ t 5 = .own b15 0 ∧ t 89 = .sc (.bool (v9 || (v8 == a0.Scan))) ∧ H b1 = some (.cells (c93 a0) 93) ∧ b1 < n ∧ H b15 = some (.cells (c34 x14.1) 34) ∧ b15 < n ∧ b1 ≠ b15) (fun J9 hJ9 => ?_) ?_
            · rcases Bool.eq_false_or_eq_true v9 with hb9 | hb9
              · rw [hb9] at f84
                refine Stk.run 5 (fun t H n => t 1 = .own b1 0 ∧ t 3 = .sc (.int .i64 v8) ∧ t 5 = .own b15 0 ∧ t 89 = .sc (.bool true) ∧ H b1 = some (.cells (c93 a0) 93) ∧ b1 < n ∧ H b15 = some (.cells (c34 x14.1) 34) ∧ b15 < n ∧ b1 ≠ b15) (fun J hJ => ?_) ?_
                · simp [-splice, f1, f3, f5, f84, b_b1, b_b15]
                  exact hJ _ _ _ ⟨by simp [f1], by simp [f3], by simp [f5], by simp [-splice, f1, f3, f5, f84, b_b1, b_b15], b_b1, l_b1, b_b15, l_b15, d_b1_b15⟩
                clear f1 f3 f5 f84 b_b1 l_b1 b_b15 l_b15 d_b1_b15
                rintro t H n ⟨f1, f3, f5, f89, b_b1, l_b1, b_b15, l_b15, d_b1_b15⟩
                refine Stk.on ?_
                exact Stk.ln 0 (by decide) (hJ9 _ _ _ ⟨f1, f3, f5, f89.trans (congrArg (fun q => AV.sc (.bool q)) (by rw [hb9]; rfl)), b_b1, l_b1, b_b15, l_b15, d_b1_b15⟩)
              · rw [hb9] at f84
                refine Stk.run 5 (fun t H n => t 1 = .own b1 0 ∧ t 3 = .sc (.int .i64 v8) ∧ t 5 = .own b15 0 ∧ t 89 = .sc (.bool (v8 == a0.Scan)) ∧ H b1 = some (.cells (c93 a0) 93) ∧ b1 < n ∧ H b15 = some (.cells (c34 x14.1) 34) ∧ b15 < n ∧ b1 ≠ b15) (fun J hJ => ?_) ?_
                · simp [-splice, f1, f3, f5, f84, b_b1, b_b15, ld_93_5_3]
                  exact hJ _ _ _ ⟨by simp [f1], by simp [f3], by simp [f5], by simp [-splice, f1, f3, f5, f84, b_b1, b_b15, ld_93_5_3], b_b1, l_b1, b_b15, l_b15, d_b1_b15⟩
                clear f1 f3 f5 f84 b_b1 l_b1 b_b15 l_b15 d_b1_b15
                rintro t H n ⟨f1, f3, f5, f89, b_b1, l_b1, b_b15, l_b15, d_b1_b15⟩
                refine Stk.on ?_
                exact Stk.ln 0 (by decide) (hJ9 _ _ _ ⟨f1, f3, f5, f89.trans (congrArg (fun q => AV.sc (.bool q)) (by rw [hb9]; rfl)), b_b1, l_b1, b_b15, l_b15, d_b1_b15⟩)
            clear f1 f3 f5 f84 b_b1 l_b1 b_b15 l_b15 d_b1_b15
            rintro t H n ⟨f1, f3, f5, f89, b_b1, l_b1, b_b15, l_b15, d_b1_b15⟩
            refine Stk.run 1 (fun t H n => t 1 = .own b1 0 ∧ t 3 = .sc (.int .i64 v8) ∧ t 4 = .sc (.bool (v9 || (v8 == a0.Scan))) ∧ t 5 = .own b15 0 ∧ H b1 = some (.cells (c93 a0) 93) ∧ b1 < n ∧ H b15 = some (.cells (c34 x14.1) 34) ∧ b15 < n ∧ b1 ≠ b15) (fun J hJ => ?_) ?_
            · simp [-splice, f1, f3, f5, f89, b_b1, b_b15]
              exact hJ _ _ _ ⟨by simp [f1], by simp [f3], by simp [-splice, f1, f3, f5, f89, b_b1, b_b15], by simp [f5], b_b1, l_b1, b_b15, l_b15, d_b1_b15⟩
            clear f1 f3 f5 f89 b_b1 l_b1 b_b15 l_b15 d_b1_b15
            rintro t H n ⟨f1, f3, f4, f5, b_b1, l_b1, b_b15, l_b15, d_b1_b15⟩
            refine Stk.on ?_
            refine Stk.rg ?_
            refine Stk.run 2 (fun t H n => t 1 = .own b1 0 ∧ t 4 = .sc (.bool (v9 || (v8 == a0.Scan))) ∧ t 90 = .sc (.int .i64 v8) ∧ t 91 = .agg (c34 x14.1) ∧ H b1 = some (.cells (c93 a0) 93) ∧ b1 < n) (fun J hJ => ?_) ?_
            · simp [-splice, f1, f3, f4, f5, b_b1, b_b15, ld_34_0_34]
              exact hJ _ _ _ ⟨by simp [f1], by simp [f4], by simp [-splice, f1, f3, f4, f5, b_b1, b_b15, ld_34_0_34], by simp [-splice, f1, f3, f4, f5, b_b1, b_b15, ld_34_0_34], b_b1, l_b1⟩
            clear f1 f3 f4 f5 b_b1 l_b1 b_b15 l_b15 d_b1_b15
            rintro t H n ⟨f1, f4, f90, f91, b_b1, l_b1⟩
            obtain ⟨x22, hx22, h⟩ := bnd h
            refine Stk.cv (g := 49) (args := [.agg (c34 x14.1)]) (args' := [.agg (c34 x14.1)]) (v := .sc (.int .i64 x22)) [] (ok_heap_Size F _ _ hx22) (by simp [f1, f4, f90, f91]) rfl rfl (by simp [f1, f4, f90, f91]) (.cons (.free (fr34 _)) (.nil)) (.inl ⟨rfl, rfl⟩) (fun t' ht' => ?_)
            refine Stk.gen (fun t H n => t 1 = .own b1 0 ∧ t 4 = .sc (.bool (v9 || (v8 == a0.Scan))) ∧ t 90 = .sc (.int .i64 v8) ∧ t 92 = .sc (.int .i64 x22) ∧ H b1 = some (.cells (c93 a0) 93) ∧ b1 < n) ⟨by simp [ht', f1], by simp [ht', f4], by simp [ht', f90], by simp [ht'], b_b1, l_b1⟩ ?_
            clear f1 f4 f90 f91 b_b1 l_b1 ht' t'
            rintro t H n ⟨f1, f4, f90, f92, b_b1, l_b1⟩
            refine Stk.run 2 (fun t H n => t 1 = .own b1 0 ∧ t 3 = .sc (.int .i64 (IntKind.i64.wrap (v8 + x22))) ∧ t 4 = .sc (.bool (v9 || (v8 == a0.Scan))) ∧ H b1 = some (.cells (c93 a0) 93) ∧ b1 < n) (fun J hJ => ?_) ?_
            · simp [-splice, f1, f4, f90, f92, b_b1]
              exact hJ _ _ _ ⟨by simp [f1], by simp [-splice, f1, f4, f90, f92, b_b1], by simp [f4], b_b1, l_b1⟩
            clear f1 f4 f90 f92 b_b1 l_b1
            rintro t H n ⟨f1, f3, f4, b_b1, l_b1⟩
            refine Stk.on ?_
            refine Stk.bn ?_
            exact Stk.ln μ (Nat.lt_succ_self _) (hJ6 _ _ _ _ ⟨(IntKind.i64.wrap (v8 + x22)), (v9 || (v8 == a0.Scan)), h, f1, f3, f4, b_b1, l_b1⟩)
        · have h := cF hb12 h
          refine Stk.ex rfl ?_
          exact Stk.ln 0 (by decide) (hJ5 _ _ _ ⟨v9, h, f1, f4, b_b1, l_b1⟩)
      clear h f1 f3 f4 b_b1 l_b1
      rintro t H n ⟨v7, h, f1, f4, b_b1, l_b1⟩
      subst hK5
      refine Stk.sq ?_
      refine Stk.rg ?_
      refine Stk.run 3 (fun t H n => t 1 = .own b1 0 ∧ t 4 = .sc (.bool v7) ∧ t 96 = .sc (.bool a0.On) ∧ H b1 = some (.cells (c93 a0) 93) ∧ b1 < n) (fun J hJ => ?_) ?_
      · simp [-splice, f1, f4, b_b1, ld_93_4_4]
        exact hJ _ _ _ ⟨by simp [f1], by simp [f4], by simp [-splice, f1, f4, b_b1, ld_93_4_4], b_b1, l_b1⟩
      clear f1 f4 b_b1 l_b1
      rintro t H n ⟨f1, f4, f96, b_b1, l_b1⟩
      refine Stk.jo 9 (fun t H n => t 1 = .own b1 0 ∧ t 105 = .sc (.bool (a0.On && (v7 || (a0.Scan == a0.Next)))) ∧ H b1 = some (.cells (c93 a0) 93) ∧ b1 < n) (fun J10 hJ10 => ?_) ?_
      · rcases Bool.eq_false_or_eq_true a0.On with hb10 | hb10
        · rw [hb10] at f96
          refine Stk.run 2 (fun t H n => t 1 = .own b1 0 ∧ t 96 = .sc (.bool true) ∧ t 98 = .sc (.bool v7) ∧ H b1 = some (.cells (c93 a0) 93) ∧ b1 < n) (fun J hJ => ?_) ?_
          · simp [-splice, f1, f4, f96, b_b1]
            exact hJ _ _ _ ⟨by simp [f1], by simp [f96], by simp [-splice, f1, f4, f96, b_b1], b_b1, l_b1⟩
          clear f1 f4 f96 b_b1 l_b1
          rintro t H n ⟨f1, f96, f98, b_b1, l_b1⟩
          refine Stk.jo 6 (fun t H n => t 1 = .own b1 0 ∧ t 96 = .sc (.bool true) ∧ t 104 = .sc (.bool (v7 || (a0.Scan == a0.Next))) ∧ H b1 = some (.cells (c93 a0) 93) ∧ b1 < n) (fun J11 hJ11 => ?_) ?_
          · rcases Bool.eq_false_or_eq_true v7 with hb11 | hb11
            · rw [hb11] at f98
              refine Stk.run 6 (fun t H n => t 1 = .own b1 0 ∧ t 96 = .sc (.bool true) ∧ t 104 = .sc (.bool true) ∧ H b1 = some (.cells (c93 a0) 93) ∧ b1 < n) (fun J hJ => ?_) ?_
              · simp [-splice, f1, f96, f98, b_b1]
                exact hJ _ _ _ ⟨by simp [f1], by simp [f96], by simp [-splice, f1, f96, f98, b_b1], b_b1, l_b1⟩
              clear f1 f96 f98 b_b1 l_b1
              rintro t H n ⟨f1, f96, f104, b_b1, l_b1⟩
              refine Stk.on ?_
              exact Stk.ln 0 (by decide) (hJ11 _ _ _ ⟨f1, f96, f104.trans (congrArg (fun q => AV.sc (.bool q)) (by rw [hb11]; rfl)), b_b1, l_b1⟩)
            · rw [hb11] at f98
              refine Stk.run 6 (fun t H n => t 1 = .own b1 0 ∧ t 96 = .sc (.bool true) ∧ t 104 = .sc (.bool (a0.Scan == a0.Next)) ∧ H b1 = some (.cells (c93 a0) 93) ∧ b1 < n) (fun J hJ => ?_) ?_
              · simp [-splice, f1, f96, f98, b_b1, ld_93_5_3, ld_93_3_3]
                exact hJ _ _ _ ⟨by simp [f1], by simp [f96], by simp [-splice, f1, f96, f98, b_b1, ld_93_5_3, ld_93_3_3], b_b1, l_b1⟩
              clear f1 f96 f98 b_b1 l_b1
              rintro t H n ⟨f1, f96, f104, b_b1, l_b1⟩
              refine Stk.on ?_
              exact Stk.ln 0 (by decide) (hJ11 _ _ _ ⟨f1, f96, f104.trans (congrArg (fun q => AV.sc (.bool q)) (by rw [hb11]; rfl)), b_b1, l_b1⟩)
          clear f1 f96 f98 b_b1 l_b1
          rintro t H n ⟨f1, f96, f104, b_b1, l_b1⟩
          refine Stk.run 1 (fun t H n => t 1 = .own b1 0 ∧ t 105 = .sc (.bool (v7 || (a0.Scan == a0.Next))) ∧ H b1 = some (.cells (c93 a0) 93) ∧ b1 < n) (fun J hJ => ?_) ?_
          · simp [-splice, f1, f96, f104, b_b1]
            exact hJ _ _ _ ⟨by simp [f1], by simp [-splice, f1, f96, f104, b_b1], b_b1, l_b1⟩
          clear f1 f96 f104 b_b1 l_b1
          rintro t H n ⟨f1, f105, b_b1, l_b1⟩
          refine Stk.on ?_
          exact Stk.ln 0 (by decide) (hJ10 _ _ _ ⟨f1, f105.trans (congrArg (fun q => AV.sc (.bool q)) (by rw [hb10]; rfl)), b_b1, l_b1⟩)
        · rw [hb10] at f96
          refine Stk.run 9 (fun t H n => t 1 = .own b1 0 ∧ t 105 = .sc (.bool false) ∧ H b1 = some (.cells (c93 a0) 93) ∧ b1 < n) (fun J hJ => ?_) ?_
          · simp [-splice, f1, f4, f96, b_b1]
            exact hJ _ _ _ ⟨by simp [f1], by simp [-splice, f1, f4, f96, b_b1], b_b1, l_b1⟩
          clear f1 f4 f96 b_b1 l_b1
          rintro t H n ⟨f1, f105, b_b1, l_b1⟩
          refine Stk.on ?_
          exact Stk.ln 0 (by decide) (hJ10 _ _ _ ⟨f1, f105.trans (congrArg (fun q => AV.sc (.bool q)) (by rw [hb10]; rfl)), b_b1, l_b1⟩)
      clear f1 f4 f96 b_b1 l_b1
      rintro t H n ⟨f1, f105, b_b1, l_b1⟩
      refine Stk.run 1 (fun t H n => t 1 = .own b1 0 ∧ t 106 = .sc (.bool (a0.On && (v7 || (a0.Scan == a0.Next)))) ∧ H b1 = some (.cells (c93 a0) 93) ∧ b1 < n) (fun J hJ => ?_) ?_
      · simp [-splice, f1, f105, b_b1]
        exact hJ _ _ _ ⟨by simp [f1], by simp [-splice, f1, f105, b_b1], b_b1, l_b1⟩
      clear f1 f105 b_b1 l_b1
      rintro t H n ⟨f1, f106, b_b1, l_b1⟩
      refine Stk.jo 9 (fun t H n => t 115 = .sc (.bool ((a0.On && (v7 || (a0.Scan == a0.Next))) || ((!a0.On) && (a0.Scan == 0))))) (fun J12 hJ12 => ?_) ?_
      · rcases Bool.eq_false_or_eq_true (a0.On && (v7 || (a0.Scan == a0.Next))) with hb12 | hb12
        · rw [hb12] at f106
          refine Stk.run 9 (fun t H n => t 115 = .sc (.bool true)) (fun J hJ => ?_) ?_
          · simp [-splice, f1, f106, b_b1]
            exact hJ _ _ _ (by simp [-splice, f1, f106, b_b1])
          clear f1 f106 b_b1 l_b1
          rintro t H n f115
          refine Stk.on ?_
          exact Stk.ln 0 (by decide) (hJ12 _ _ _ (f115.trans (congrArg (fun q => AV.sc (.bool q)) (by rw [hb12]; rfl))))
        · rw [hb12] at f106
          refine Stk.run 4 (fun t H n => t 1 = .own b1 0 ∧ t 106 = .sc (.bool false) ∧ t 110 = .sc (.bool (!a0.On)) ∧ H b1 = some (.cells (c93 a0) 93) ∧ b1 < n) (fun J hJ => ?_) ?_
          · simp [-splice, f1, f106, b_b1, ld_93_4_4]
            exact hJ _ _ _ ⟨by simp [f1], by simp [f106], by simp [-splice, f1, f106, b_b1, ld_93_4_4], b_b1, l_b1⟩
          clear f1 f106 b_b1 l_b1
          rintro t H n ⟨f1, f106, f110, b_b1, l_b1⟩
          refine Stk.jo 4 (fun t H n => t 106 = .sc (.bool false) ∧ t 114 = .sc (.bool ((!a0.On) && (a0.Scan == 0)))) (fun J13 hJ13 => ?_) ?_
          · rcases Bool.eq_false_or_eq_true (!a0.On) with hb13 | hb13
            · rw [hb13] at f110
              refine Stk.run 4 (fun t H n => t 106 = .sc (.bool false) ∧ t 114 = .sc (.bool (a0.Scan == 0))) (fun J hJ => ?_) ?_
              · simp [-splice, f1, f106, f110, b_b1, ld_93_5_3]
                exact hJ _ _ _ ⟨by simp [f106], by simp [-splice, f1, f106, f110, b_b1, ld_93_5_3]⟩
              clear f1 f106 f110 b_b1 l_b1
              rintro t H n ⟨f106, f114⟩
              refine Stk.on ?_
              exact Stk.ln 0 (by decide) (hJ13 _ _ _ ⟨f106, f114.trans (congrArg (fun q => AV.sc (.bool q)) (by rw [hb13]; rfl))⟩)
            · rw [hb13] at f110
              refine Stk.run 4 (fun t H n => t 106 = .sc (.bool false) ∧ t 114 = .sc (.bool false)) (fun J hJ => ?_) ?_
              · simp [-splice, f1, f106, f110, b_b1]
                exact hJ _ _ _ ⟨by simp [f106], by simp [-splice, f1, f106, f110, b_b1]⟩
              clear f1 f106 f110 b_b1 l_b1
              rintro t H n ⟨f106, f114⟩
              refine Stk.on ?_
              exact Stk.ln 0 (by decide) (hJ13 _ _ _ ⟨f106, f114.trans (congrArg (fun q => AV.sc (.bool q)) (by rw [hb13]; rfl))⟩)
          clear f1 f106 f110 b_b1 l_b1
          rintro t H n ⟨f106, f114⟩
          refine Stk.run 1 (fun t H n => t 115 = .sc (.bool ((!a0.On) && (a0.Scan == 0)))) (fun J hJ => ?_) ?_
          · simp [-splice, f106, f114]
            exact hJ _ _ _ (by simp [-splice, f106, f114])
          clear f106 f114
          rintro t H n f115
          refine Stk.on ?_
          exact Stk.ln 0 (by decide) (hJ12 _ _ _ (f115.trans (congrArg (fun q => AV.sc (.bool q)) (by rw [hb12]; rfl))))
      clear f1 f106 b_b1 l_b1
      rintro t H n f115
      refine Stk.run 1 (fun t H n => t 2 = .sc (.bool ((a0.On && (v7 || (a0.Scan == a0.Next))) || ((!a0.On) && (a0.Scan == 0))))) (fun J hJ => ?_) ?_
      · simp [-splice, f115]
        exact hJ _ _ _ (by simp [-splice, f115])
      clear f115
      rintro t H n f2
      refine Stk.on ?_
      refine Stk.rt ?_
      have hq := Option.some.inj h; subst hq
      exact (hr _ _ _ (.sc (.bool ((a0.On && (v7 || (a0.Scan == a0.Next))) || ((!a0.On) && (a0.Scan == 0))))) ([]) (by simp [f2]) (.inr (.inr (.free (rfl))))).1
end Go.Proofs.Ytfflojbgikfbmaa.M
