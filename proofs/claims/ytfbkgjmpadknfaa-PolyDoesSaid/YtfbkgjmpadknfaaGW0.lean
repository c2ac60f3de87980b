/-
  The functions come to them.
-/
import Derived.Test.YtfbkgjmpadknfaaGM
namespace Go.Proofs.Ytfbkgjmpadknfaa.M
open Go.Proofs.YtfbkgjmpadknfaaW.Ah Go.Proofs.Ytfbkgjmpadknfaa
set_option linter.unusedVariables false
set_option linter.unusedSimpArgs false
set_option maxRecDepth 8000
attribute [local simp] T.t2 T.t3 T.t4 T.t5 T.t23 T.t36 T.t37 T.t50 T.t95 T.t97 List.range List.range.loop
attribute [-simp] appendAV fillAV
theorem ok_poly_unknown (F : Nat) (a0 : Int) (r : api_Term) (h : poly_unknown F a0 = some r) : RunF Try.prog T.T 69 [.sc (.int .i64 a0)] (.agg (c97 r)) := by
  rw [poly_unknown] at h
  refine RunF.z Try.func69 rfl rfl rfl rfl rfl (fun C hr => ?_)
  refine Stk.gen (fun t H n => t 0 = .sc (.int .i64 a0)) (by simp) ?_
  rintro t H n f0
  refine Stk.sq ?_
  refine Stk.rg ?_
  refine Stk.om (mop_alloc T.t97 (cs := c97 (api_Term.mk (Arr.rep 12 0) 0)) rfl) (by simp [f0]) rfl (fun t' ht' => ?_)
  refine Stk.gen (fun t H n => ∃ b1, t 0 = .sc (.int .i64 a0) ∧ t 2 = .own b1 0 ∧ H b1 = some (.cells (c97 (api_Term.mk (Arr.rep 12 0) 0)) 97) ∧ b1 < n) ⟨n, by simp [ht', f0], by simp [ht'], upd_same _ _ _, Nat.lt_succ_self _⟩ ?_
  clear f0 ht' t'
  rintro t H n ⟨b1, f0, f2, b_b1, l_b1⟩
  refine Stk.on ?_
  refine Stk.sq ?_
  refine Stk.rg ?_
  refine Stk.ov (vop_build T.t97 rfl rfl (cs := c97 (api_Term.mk (Arr.rep 12 0) 0)) (cs' := c97 (api_Term.mk (Arr.rep 12 0) 1)) rfl (.cons rfl rfl rfl rfl rfl (rfl) (by rw [len97]; decide) (st_97_12_2 _ _) (.nil))) (by simp [f0, f2]) rfl (fun t' ht' => ?_)
  refine Stk.gen (fun t H n => t 0 = .sc (.int .i64 a0) ∧ t 2 = .own b1 0 ∧ t 4 = .agg (c97 (api_Term.mk (Arr.rep 12 0) 1)) ∧ H b1 = some (.cells (c97 (api_Term.mk (Arr.rep 12 0) 0)) 97) ∧ b1 < n) ⟨by simp [ht', f0], by simp [ht', f2], by simp [ht'], b_b1, l_b1⟩ ?_
  clear f0 f2 b_b1 l_b1 ht' t'
  rintro t H n ⟨f0, f2, f4, b_b1, l_b1⟩
  refine Stk.om (mop_alloc T.t97 (cs := c97 (api_Term.mk (Arr.rep 12 0) 0)) rfl) (by simp [f0, f2, f4]) rfl (fun t' ht' => ?_)
  refine Stk.gen (fun t H n => ∃ b2, t 0 = .sc (.int .i64 a0) ∧ t 2 = .own b1 0 ∧ t 3 = .own b2 0 ∧ t 4 = .agg (c97 (api_Term.mk (Arr.rep 12 0) 1)) ∧ H b1 = some (.cells (c97 (api_Term.mk (Arr.rep 12 0) 0)) 97) ∧ b1 < n ∧ H b2 = some (.cells (c97 (api_Term.mk (Arr.rep 12 0) 0)) 97) ∧ b2 < n ∧ b1 ≠ b2) ⟨n, by simp [ht', f0], by simp [ht', f2], by simp [ht'], by simp [ht', f4], (upd_ne _ _ (Nat.ne_of_lt l_b1)).trans b_b1, Nat.lt_succ_of_lt l_b1, upd_same _ _ _, Nat.lt_succ_self _, Nat.ne_of_lt l_b1⟩ ?_
  clear f0 f2 f4 b_b1 l_b1 ht' t'
  rintro t H n ⟨b2, f0, f2, f3, f4, b_b1, l_b1, b_b2, l_b2, d_b1_b2⟩
  refine Stk.om (mop_store (z := 13) rfl f3 b_b2 f4 (len97 _) (by rw [len97]; decide) (ok97 _) (st_97_0_97 _ _)) (by simp [f0, f2, f3, f4]) rfl (fun t' ht' => ?_)
  refine Stk.gen (fun t H n => t 0 = .sc (.int .i64 a0) ∧ t 2 = .own b1 0 ∧ t 3 = .own b2 0 ∧ H b1 = some (.cells (c97 (api_Term.mk (Arr.rep 12 0) 0)) 97) ∧ b1 < n ∧ H b2 = some (.cells (c97 (api_Term.mk (Arr.rep 12 0) 1)) 97) ∧ b2 < n ∧ b1 ≠ b2) ⟨by simp [ht', f0], by simp [ht', f2], by simp [ht', f3], (upd_ne _ _ d_b1_b2).trans b_b1, l_b1, upd_same _ _ _, l_b2, d_b1_b2⟩ ?_
  clear f0 f2 f3 f4 b_b1 l_b1 b_b2 l_b2 d_b1_b2 ht' t'
  rintro t H n ⟨f0, f2, f3, b_b1, l_b1, b_b2, l_b2, d_b1_b2⟩
  refine Stk.on ?_
  refine Stk.sq ?_
  refine Stk.rg ?_
  obtain ⟨x3, hx3, h⟩ := bnd h
  obtain ⟨i0x3, i1x3, i2x3, _⟩ := idx_ok hx3
  have i3x3 : a0 < 12 := by rw [((api_Term.mk (Arr.rep 12 0) 1).Exps).2] at i1x3; exact i1x3
  have i4x3 : a0.toNat < 12 := by omega
  refine Stk.run 3 (fun t H n => t 2 = .own b1 0 ∧ t 3 = .own b2 0 ∧ t 7 = .own b2 (a0.toNat) ∧ H b1 = some (.cells (c97 (api_Term.mk (Arr.rep 12 0) 0)) 97) ∧ b1 < n ∧ H b2 = some (.cells (c97 (api_Term.mk (Arr.rep 12 0) 1)) 97) ∧ b2 < n ∧ b1 ≠ b2) (fun J hJ => ?_) ?_
  · simp [-splice, f0, f2, f3, b_b1, b_b2, i0x3, i1x3, i3x3, i4x3]
    exact hJ _ _ _ ⟨by simp [f2], by simp [f3], by simp [-splice, f0, f2, f3, b_b1, b_b2, i0x3, i1x3, i3x3, i4x3], b_b1, l_b1, b_b2, l_b2, d_b1_b2⟩
  clear f0 f2 f3 b_b1 l_b1 b_b2 l_b2 d_b1_b2
  rintro t H n ⟨f2, f3, f7, b_b1, l_b1, b_b2, l_b2, d_b1_b2⟩
  have sp : splice (c97 (api_Term.mk (Arr.rep 12 0) 1)) (a0.toNat) ([.sc (.int .u8 1)]) = c97 ({ (api_Term.mk (Arr.rep 12 0) 1) with Exps := (((api_Term.mk (Arr.rep 12 0) 1).Exps).set a0 1) }) := by
    rw [c97, c97]
    rw [splice_head (by rw [Enc.len (e := c95)]; simp; omega)]
    congr 1
    rw [c95, c95, Arr.set]
    have e0 := splice_elem0 (e := c5) (z := 1) hx3
    simpa using e0 _
  refine Stk.om (mop_store (z := 1) rfl f7 b_b2 rfl rfl (by rw [len97]; omega) rfl sp) (by simp [f2, f3, f7]) rfl (fun t' ht' => ?_)
  refine Stk.gen (fun t H n => t 2 = .own b1 0 ∧ t 3 = .own b2 0 ∧ H b1 = some (.cells (c97 (api_Term.mk (Arr.rep 12 0) 0)) 97) ∧ b1 < n ∧ H b2 = some (.cells (c97 ({ (api_Term.mk (Arr.rep 12 0) 1) with Exps := (((api_Term.mk (Arr.rep 12 0) 1).Exps).set a0 1) })) 97) ∧ b2 < n ∧ b1 ≠ b2) ⟨by simp [ht', f2], by simp [ht', f3], (upd_ne _ _ d_b1_b2).trans b_b1, l_b1, upd_same _ _ _, l_b2, d_b1_b2⟩ ?_
  clear f2 f3 f7 b_b1 l_b1 b_b2 l_b2 d_b1_b2 sp ht' t'
  rintro t H n ⟨f2, f3, b_b1, l_b1, b_b2, l_b2, d_b1_b2⟩
  refine Stk.on ?_
  refine Stk.sq ?_
  refine Stk.rg ?_
  refine Stk.run 1 (fun t H n => t 2 = .own b1 0 ∧ t 8 = .agg (c97 ({ (api_Term.mk (Arr.rep 12 0) 1) with Exps := (((api_Term.mk (Arr.rep 12 0) 1).Exps).set a0 1) })) ∧ H b1 = some (.cells (c97 (api_Term.mk (Arr.rep 12 0) 0)) 97) ∧ b1 < n) (fun J hJ => ?_) ?_
  · simp [-splice, f2, f3, b_b1, b_b2, ld_97_0_97]
    exact hJ _ _ _ ⟨by simp [f2], by simp [-splice, f2, f3, b_b1, b_b2, ld_97_0_97], b_b1, l_b1⟩
  clear f2 f3 b_b1 l_b1 b_b2 l_b2 d_b1_b2
  rintro t H n ⟨f2, f8, b_b1, l_b1⟩
  refine Stk.om (mop_store (z := 13) rfl f2 b_b1 f8 (len97 _) (by rw [len97]; decide) (ok97 _) (st_97_0_97 _ _)) (by simp [f2, f8]) rfl (fun t' ht' => ?_)
  refine Stk.gen (fun t H n => t 2 = .own b1 0 ∧ H b1 = some (.cells (c97 ({ (api_Term.mk (Arr.rep 12 0) 1) with Exps := (((api_Term.mk (Arr.rep 12 0) 1).Exps).set a0 1) })) 97) ∧ b1 < n) ⟨by simp [ht', f2], upd_same _ _ _, l_b1⟩ ?_
  clear f2 f8 b_b1 l_b1 ht' t'
  rintro t H n ⟨f2, b_b1, l_b1⟩
  refine Stk.on ?_
  refine Stk.rt ?_
  have hq := Option.some.inj h; subst hq
  exact (hr _ _ _ (.agg (c97 ({ (api_Term.mk (Arr.rep 12 0) 1) with Exps := (((api_Term.mk (Arr.rep 12 0) 1).Exps).set a0 1) }))) ([]) (by simp [f2, b_b1, ld_97_0_97]) (.inr (.inr (.free (fr97 _))))).1
theorem ok_poly_Var (F : Nat) (a0 : Int) (r : ((List api_Term) × Int)) (h : poly_Var F a0 = some r) : RunF Try.prog T.T 33 [.sc (.int .i64 a0)] (.tup [.ssl (encs c97 r.1) r.1.length false, .sc (.int .i64 r.2)]) := by
  rw [poly_Var] at h
  refine RunF.z Try.func33 rfl rfl rfl rfl rfl (fun C hr => ?_)
  refine Stk.gen (fun t H n => t 0 = .sc (.int .i64 a0)) (by simp) ?_
  rintro t H n f0
  refine Stk.sq ?_
  refine Stk.rg ?_
  refine Stk.run 1 (fun t H n => t 0 = .sc (.int .i64 a0)) (fun J hJ => ?_) ?_
  · simp [-splice, f0]
    exact hJ _ _ _ (by simp [f0])
  clear f0
  rintro t H n f0
  refine Stk.run 1 (fun t H n => t 0 = .sc (.int .i64 a0)) (fun J hJ => ?_) ?_
  · simp [-splice, f0]
    exact hJ _ _ _ (by simp [f0])
  clear f0
  rintro t H n f0
  refine Stk.on ?_
  refine Stk.sq ?_
  refine Stk.sq ?_
  refine Stk.rg ?_
  refine Stk.run 3 (fun t H n => t 0 = .sc (.int .i64 a0) ∧ t 6 = .sc (.bool (decide (a0 < 0)))) (fun J hJ => ?_) ?_
  · simp [-splice, f0]
    exact hJ _ _ _ ⟨by simp [f0], by simp [-splice, f0]⟩
  clear f0
  rintro t H n ⟨f0, f6⟩
  refine Stk.jo 3 (fun t H n => t 0 = .sc (.int .i64 a0) ∧ t 9 = .sc (.bool ((decide (a0 < 0)) || (decide (12 ≤ a0))))) (fun J1 hJ1 => ?_) ?_
  · rcases Bool.eq_false_or_eq_true (decide (a0 < 0)) with hb1 | hb1
    · rw [hb1] at f6
      refine Stk.run 3 (fun t H n => t 0 = .sc (.int .i64 a0) ∧ t 9 = .sc (.bool true)) (fun J hJ => ?_) ?_
      · simp [-splice, f0, f6]
        exact hJ _ _ _ ⟨by simp [f0], by simp [-splice, f0, f6]⟩
      clear f0 f6
      rintro t H n ⟨f0, f9⟩
      refine Stk.on ?_
      exact Stk.ln 0 (by decide) (hJ1 _ _ _ ⟨f0, f9.trans (congrArg (fun q => AV.sc (.bool q)) (by rw [hb1]; rfl))⟩)
    · rw [hb1] at f6
      refine Stk.run 3 (fun t H n => t 0 = .sc (.int .i64 a0) ∧ t 9 = .sc (.bool (decide (12 ≤ a0)))) (fun J hJ => ?_) ?_
      · simp [-splice, f0, f6]
        exact hJ _ _ _ ⟨by simp [f0], by simp [-splice, f0, f6]⟩
      clear f0 f6
      rintro t H n ⟨f0, f9⟩
      refine Stk.on ?_
      exact Stk.ln 0 (by decide) (hJ1 _ _ _ ⟨f0, f9.trans (congrArg (fun q => AV.sc (.bool q)) (by rw [hb1]; rfl))⟩)
  clear f0 f6
  rintro t H n ⟨f0, f9⟩
  refine Stk.on ?_
  refine Stk.cond ((decide (a0 < 0)) || (decide (12 ≤ a0))) (by exact f9) (fun hb1 => ?_) (fun hb1 => ?_)
  · have h := cT hb1 h
    refine Stk.sq ?_
    refine Stk.rg ?_
    refine Stk.run 1 (fun t H n => t 2 = .sc (.slice none 0 0)) (fun J hJ => ?_) ?_
    · simp [-splice, f0, f9]
      exact hJ _ _ _ (by simp [-splice, f0, f9])
    clear f0 f9
    rintro t H n f2
    refine Stk.wk trivial 2 (.ssl (encs c97 ([] : (List api_Term))) ([] : (List api_Term)).length false) (by rw [f2]; exact .inr (.inr .nilS)) (fun t' ht' => ?_)
    refine Stk.gen (fun t H n => t 2 = .ssl (encs c97 ([] : (List api_Term))) ([] : (List api_Term)).length false) (by simp [ht', f2]) ?_
    clear f2 ht' t'
    rintro t H n f2
    refine Stk.run 1 (fun t H n => t 2 = .ssl (encs c97 ([] : (List api_Term))) ([] : (List api_Term)).length false ∧ t 3 = .sc (.int .i64 20)) (fun J hJ => ?_) ?_
    · simp [-splice, f2]
      exact hJ _ _ _ ⟨by simp [f2], by simp [-splice, f2]⟩
    clear f2
    rintro t H n ⟨f2, f3⟩
    refine Stk.on ?_
    refine Stk.rt ?_
    have hq := Option.some.inj h; subst hq
    exact (hr _ _ _ (.tup [.ssl (encs c97 ([] : (List api_Term))) ([] : (List api_Term)).length false, .sc (.int .i64 20)]) ([]) (by simp [f2, f3]) (.inr (.inr (.tup (.cons (.free (freeL_encs fr97 _)) (.cons (.free (rfl)) (.nil))))))).1
  · have h := cF hb1 h
    refine Stk.sk ?_
    refine Stk.sq ?_
    refine Stk.rg ?_
    refine Stk.run 1 (fun t H n => t 10 = .sc (.int .i64 a0)) (fun J hJ => ?_) ?_
    · simp [-splice, f0, f9]
      exact hJ _ _ _ (by simp [-splice, f0, f9])
    clear f0 f9
    rintro t H n f10
    obtain ⟨x2, hx2, h⟩ := bnd h
    refine Stk.cv (g := 69) (args := [.sc (.int .i64 a0)]) (args' := [.sc (.int .i64 a0)]) (v := .agg (c97 x2)) [] (ok_poly_unknown F _ _ hx2) (by simp [f10]) rfl rfl (by simp [f10]) (.cons (.free (rfl)) (.nil)) (.inl ⟨rfl, fr97 _⟩) (fun t' ht' => ?_)
    refine Stk.gen (fun t H n => t 11 = .agg (c97 x2)) (by simp [ht']) ?_
    clear f10 ht' t'
    rintro t H n f11
    refine Stk.om (mop_buildN (c := c97) (z := 13) T.t37 rfl T.t97 rfl (by decide) rfl (by decide) [x2] rfl (.cons f11 rfl rfl rfl (len97 _) (by simp [length_encs]) (splice_next (c := c97) [] _ x2 rfl (by simp)) (.nil))) (by simp [f11]) rfl (fun t' ht' => ?_)
    refine Stk.gen (fun t H n => ∃ b3, t 12 = .osl b3 0 ([x2] : List api_Term).length (some ([x2] : List api_Term).length) ∧ H b3 = some (.cells (encs c97 ([x2] : List api_Term)) 97) ∧ b3 < n) ⟨n, by simp [ht'], upd_same _ _ _, Nat.lt_succ_self _⟩ ?_
    clear f11 ht' t'
    rintro t H n ⟨b3, f12, b_b3, l_b3⟩
    refine Stk.run 2 (fun t H n => t 2 = .osl b3 0 ([x2] : List api_Term).length (some ([x2] : List api_Term).length) ∧ t 3 = .sc (.int .i64 0) ∧ H b3 = some (.cells (encs c97 ([x2] : List api_Term)) 97) ∧ b3 < n) (fun J hJ => ?_) ?_
    · simp [-splice, f12, b_b3]
      exact hJ _ _ _ ⟨by simp [-splice, f12, b_b3], by simp [-splice, f12, b_b3], b_b3, l_b3⟩
    clear f12 b_b3 l_b3
    rintro t H n ⟨f2, f3, b_b3, l_b3⟩
    refine Stk.wkf trivial [b3] 2 (.ssl (encs c97 ([x2] : List api_Term)) ([x2] : List api_Term).length false) (by rw [f2]; exact .inr (.inr (view_row fr97 b_b3 (by simp) _))) (fun t' H' ht' hH' => ?_)
    refine Stk.gen (fun t H n => t 2 = .ssl (encs c97 ([x2] : List api_Term)) ([x2] : List api_Term).length false ∧ t 3 = .sc (.int .i64 0)) ⟨by simp [ht', f2], by simp [ht', f3]⟩ ?_
    clear f2 f3 b_b3 l_b3 hH' ht' t' H'
    rintro t H n ⟨f2, f3⟩
    refine Stk.on ?_
    refine Stk.rt ?_
    have hq := Option.some.inj h; subst hq
    exact (hr _ _ _ (.tup [.ssl (encs c97 ([x2] : List api_Term)) ([x2] : List api_Term).length false, .sc (.int .i64 0)]) ([]) (by simp [f2, f3]) (.inr (.inr (.tup (.cons (.free (freeL_encs fr97 _)) (.cons (.free (rfl)) (.nil))))))).1
theorem ok_poly_Num (F : Nat) (a0 : Int) (r : ((List api_Term) × Int)) (h : poly_Num F a0 = some r) : RunF Try.prog T.T 31 [.sc (.int .i64 a0)] (.tup [.ssl (encs c97 r.1) r.1.length false, .sc (.int .i64 r.2)]) := by
  rw [poly_Num] at h
  refine RunF.z Try.func31 rfl rfl rfl rfl rfl (fun C hr => ?_)
  refine Stk.gen (fun t H n => t 0 = .sc (.int .i64 a0)) (by simp) ?_
  rintro t H n f0
  refine Stk.sq ?_
  refine Stk.rg ?_
  refine Stk.run 1 (fun t H n => t 0 = .sc (.int .i64 a0)) (fun J hJ => ?_) ?_
  · simp [-splice, f0]
    exact hJ _ _ _ (by simp [f0])
  clear f0
  rintro t H n f0
  refine Stk.run 1 (fun t H n => t 0 = .sc (.int .i64 a0)) (fun J hJ => ?_) ?_
  · simp [-splice, f0]
    exact hJ _ _ _ (by simp [f0])
  clear f0
  rintro t H n f0
  refine Stk.on ?_
  refine Stk.sq ?_
  refine Stk.bk ?_
  refine Stk.sq ?_
  refine Stk.rg ?_
  refine Stk.run 3 (fun t H n => t 0 = .sc (.int .i64 a0) ∧ t 4 = .sc (.bool (decide (1099511627776 < a0)))) (fun J hJ => ?_) ?_
  · simp [-splice, f0]
    exact hJ _ _ _ ⟨by simp [f0], by simp [-splice, f0]⟩
  clear f0
  rintro t H n ⟨f0, f4⟩
  refine Stk.on ?_
  refine Stk.cond (decide (1099511627776 < a0)) (by exact f4) (fun hb1 => ?_) (fun hb1 => ?_)
  · have h := cT hb1 h
    refine Stk.sq ?_
    refine Stk.rg ?_
    refine Stk.run 1 (fun t H n => t 2 = .sc (.slice none 0 0)) (fun J hJ => ?_) ?_
    · simp [-splice, f0, f4]
      exact hJ _ _ _ (by simp [-splice, f0, f4])
    clear f0 f4
    rintro t H n f2
    refine Stk.wk trivial 2 (.ssl (encs c97 ([] : (List api_Term))) ([] : (List api_Term)).length false) (by rw [f2]; exact .inr (.inr .nilS)) (fun t' ht' => ?_)
    refine Stk.gen (fun t H n => t 2 = .ssl (encs c97 ([] : (List api_Term))) ([] : (List api_Term)).length false) (by simp [ht', f2]) ?_
    clear f2 ht' t'
    rintro t H n f2
    refine Stk.run 1 (fun t H n => t 2 = .ssl (encs c97 ([] : (List api_Term))) ([] : (List api_Term)).length false ∧ t 3 = .sc (.int .i64 17)) (fun J hJ => ?_) ?_
    · simp [-splice, f2]
      exact hJ _ _ _ ⟨by simp [f2], by simp [-splice, f2]⟩
    clear f2
    rintro t H n ⟨f2, f3⟩
    refine Stk.on ?_
    refine Stk.rt ?_
    have hq := Option.some.inj h; subst hq
    exact (hr _ _ _ (.tup [.ssl (encs c97 ([] : (List api_Term))) ([] : (List api_Term)).length false, .sc (.int .i64 17)]) ([]) (by simp [f2, f3]) (.inr (.inr (.tup (.cons (.free (freeL_encs fr97 _)) (.cons (.free (rfl)) (.nil))))))).1
  · have h := cF hb1 h
    refine Stk.sq ?_
    refine Stk.rg ?_
    refine Stk.run 3 (fun t H n => t 0 = .sc (.int .i64 a0) ∧ t 7 = .sc (.bool (decide (a0 < 1)))) (fun J hJ => ?_) ?_
    · simp [-splice, f0, f4]
      exact hJ _ _ _ ⟨by simp [f0], by simp [-splice, f0, f4]⟩
    clear f0 f4
    rintro t H n ⟨f0, f7⟩
    refine Stk.on ?_
    refine Stk.cond (decide (a0 < 1)) (by exact f7) (fun hb2 => ?_) (fun hb2 => ?_)
    · have h := cT hb2 h
      refine Stk.sq ?_
      refine Stk.rg ?_
      refine Stk.run 1 (fun t H n => t 2 = .sc (.slice none 0 0)) (fun J hJ => ?_) ?_
      · simp [-splice, f0, f7]
        exact hJ _ _ _ (by simp [-splice, f0, f7])
      clear f0 f7
      rintro t H n f2
      refine Stk.wk trivial 2 (.ssl (encs c97 ([] : (List api_Term))) ([] : (List api_Term)).length false) (by rw [f2]; exact .inr (.inr .nilS)) (fun t' ht' => ?_)
      refine Stk.gen (fun t H n => t 2 = .ssl (encs c97 ([] : (List api_Term))) ([] : (List api_Term)).length false) (by simp [ht', f2]) ?_
      clear f2 ht' t'
      rintro t H n f2
      refine Stk.run 1 (fun t H n => t 2 = .ssl (encs c97 ([] : (List api_Term))) ([] : (List api_Term)).length false ∧ t 3 = .sc (.int .i64 0)) (fun J hJ => ?_) ?_
      · simp [-splice, f2]
        exact hJ _ _ _ ⟨by simp [f2], by simp [-splice, f2]⟩
      clear f2
      rintro t H n ⟨f2, f3⟩
      refine Stk.on ?_
      refine Stk.rt ?_
      have hq := Option.some.inj h; subst hq
      exact (hr _ _ _ (.tup [.ssl (encs c97 ([] : (List api_Term))) ([] : (List api_Term)).length false, .sc (.int .i64 0)]) ([]) (by simp [f2, f3]) (.inr (.inr (.tup (.cons (.free (freeL_encs fr97 _)) (.cons (.free (rfl)) (.nil))))))).1
    · have h := cF hb2 h
      refine Stk.sk ?_
      refine Stk.bn ?_
      refine Stk.sq ?_
      refine Stk.rg ?_
      refine Stk.run 1 (fun t H n => t 10 = .sc (.int .i64 a0)) (fun J hJ => ?_) ?_
      · simp [-splice, f0, f7]
        exact hJ _ _ _ (by simp [-splice, f0, f7])
      clear f0 f7
      rintro t H n f10
      refine Stk.ov (vop_build T.t97 rfl rfl (cs := c97 (api_Term.mk (Arr.rep 12 0) 0)) (cs' := c97 (api_Term.mk (Arr.rep 12 0) a0)) rfl (.cons f10 rfl rfl rfl rfl (rfl) (by rw [len97]; decide) (st_97_12_2 _ _) (.nil))) (by simp [f10]) rfl (fun t' ht' => ?_)
      refine Stk.gen (fun t H n => t 11 = .agg (c97 (api_Term.mk (Arr.rep 12 0) a0))) (by simp [ht']) ?_
      clear f10 ht' t'
      rintro t H n f11
      refine Stk.om (mop_buildN (c := c97) (z := 13) T.t37 rfl T.t97 rfl (by decide) rfl (by decide) [(api_Term.mk (Arr.rep 12 0) a0)] rfl (.cons f11 rfl rfl rfl (len97 _) (by simp [length_encs]) (splice_next (c := c97) [] _ (api_Term.mk (Arr.rep 12 0) a0) rfl (by simp)) (.nil))) (by simp [f11]) rfl (fun t' ht' => ?_)
      refine Stk.gen (fun t H n => ∃ b3, t 12 = .osl b3 0 ([(api_Term.mk (Arr.rep 12 0) a0)] : List api_Term).length (some ([(api_Term.mk (Arr.rep 12 0) a0)] : List api_Term).length) ∧ H b3 = some (.cells (encs c97 ([(api_Term.mk (Arr.rep 12 0) a0)] : List api_Term)) 97) ∧ b3 < n) ⟨n, by simp [ht'], upd_same _ _ _, Nat.lt_succ_self _⟩ ?_
      clear f11 ht' t'
      rintro t H n ⟨b3, f12, b_b3, l_b3⟩
      refine Stk.run 2 (fun t H n => t 2 = .osl b3 0 ([(api_Term.mk (Arr.rep 12 0) a0)] : List api_Term).length (some ([(api_Term.mk (Arr.rep 12 0) a0)] : List api_Term).length) ∧ t 3 = .sc (.int .i64 0) ∧ H b3 = some (.cells (encs c97 ([(api_Term.mk (Arr.rep 12 0) a0)] : List api_Term)) 97) ∧ b3 < n) (fun J hJ => ?_) ?_
      · simp [-splice, f12, b_b3]
        exact hJ _ _ _ ⟨by simp [-splice, f12, b_b3], by simp [-splice, f12, b_b3], b_b3, l_b3⟩
      clear f12 b_b3 l_b3
      rintro t H n ⟨f2, f3, b_b3, l_b3⟩
      refine Stk.wkf trivial [b3] 2 (.ssl (encs c97 ([(api_Term.mk (Arr.rep 12 0) a0)] : List api_Term)) ([(api_Term.mk (Arr.rep 12 0) a0)] : List api_Term).length false) (by rw [f2]; exact .inr (.inr (view_row fr97 b_b3 (by simp) _))) (fun t' H' ht' hH' => ?_)
      refine Stk.gen (fun t H n => t 2 = .ssl (encs c97 ([(api_Term.mk (Arr.rep 12 0) a0)] : List api_Term)) ([(api_Term.mk (Arr.rep 12 0) a0)] : List api_Term).length false ∧ t 3 = .sc (.int .i64 0)) ⟨by simp [ht', f2], by simp [ht', f3]⟩ ?_
      clear f2 f3 b_b3 l_b3 hH' ht' t' H'
      rintro t H n ⟨f2, f3⟩
      refine Stk.on ?_
      refine Stk.rt ?_
      have hq := Option.some.inj h; subst hq
      exact (hr _ _ _ (.tup [.ssl (encs c97 ([(api_Term.mk (Arr.rep 12 0) a0)] : List api_Term)) ([(api_Term.mk (Arr.rep 12 0) a0)] : List api_Term).length false, .sc (.int .i64 0)]) ([]) (by simp [f2, f3]) (.inr (.inr (.tup (.cons (.free (freeL_encs fr97 _)) (.cons (.free (rfl)) (.nil))))))).1
theorem ok_poly_merged_api_Term (F : Nat) (a0 : (List api_Term)) (a1 : (List api_Term)) (φ2 : api_Term → api_Term → Option Int) (g2 : FuncId) (first2 caps2 : List AV) (fr2 : freeL first2 = true ∧ freeL caps2 = true) (hφ2 : ∀ y0 y1 r, φ2 y0 y1 = some r → RunF Try.prog T.T g2 (first2 ++ [.agg (c97 y0), .agg (c97 y1)] ++ caps2) (.sc (.int .i64 r))) (φ3 : api_Term → api_Term → Option api_Term) (g3 : FuncId) (first3 caps3 : List AV) (fr3 : freeL first3 = true ∧ freeL caps3 = true) (hφ3 : ∀ y0 y1 r, φ3 y0 y1 = some r → RunF Try.prog T.T g3 (first3 ++ [.agg (c97 y0), .agg (c97 y1)] ++ caps3) (.agg (c97 r))) (r : (List api_Term)) (h : poly_merged_api_Term F a0 a1 φ2 φ3 = some r) : RunF Try.prog T.T 62 [.ssl (encs c97 a0) a0.length false, .ssl (encs c97 a1) a1.length false, .fn (.func g2) first2 caps2, .fn (.func g3) first3 caps3] (.ssl (encs c97 r) r.length false) := by
  rw [poly_merged_api_Term] at h
  refine RunF.z Try.func62 rfl rfl rfl rfl rfl (fun C hr => ?_)
  refine Stk.gen (fun t H n => t 0 = .ssl (encs c97 a0) a0.length false ∧ t 1 = .ssl (encs c97 a1) a1.length false ∧ t 2 = .fn (.func g2) first2 caps2 ∧ t 3 = .fn (.func g3) first3 caps3) ⟨by simp, by simp, by simp, by simp⟩ ?_
  rintro t H n ⟨f0, f1, f2, f3⟩
  refine Stk.sq ?_
  refine Stk.rg ?_
  refine Stk.run 1 (fun t H n => t 0 = .ssl (encs c97 a0) a0.length false ∧ t 1 = .ssl (encs c97 a1) a1.length false ∧ t 2 = .fn (.func g2) first2 caps2 ∧ t 3 = .fn (.func g3) first3 caps3) (fun J hJ => ?_) ?_
  · simp [-splice, f0, f1, f2, f3]
    exact hJ _ _ _ ⟨by simp [f0], by simp [f1], by simp [f2], by simp [f3]⟩
  clear f0 f1 f2 f3
  rintro t H n ⟨f0, f1, f2, f3⟩
  refine Stk.on ?_
  refine Stk.sq ?_
  refine Stk.rg ?_
  refine Stk.run 1 (fun t H n => t 0 = .ssl (encs c97 a0) a0.length false ∧ t 1 = .ssl (encs c97 a1) a1.length false ∧ t 2 = .fn (.func g2) first2 caps2 ∧ t 3 = .fn (.func g3) first3 caps3 ∧ t 9 = .sc (.slice none 0 0)) (fun J hJ => ?_) ?_
  · simp [-splice, f0, f1, f2, f3]
    exact hJ _ _ _ ⟨by simp [f0], by simp [f1], by simp [f2], by simp [f3], by simp [-splice, f0, f1, f2, f3]⟩
  clear f0 f1 f2 f3
  rintro t H n ⟨f0, f1, f2, f3, f9⟩
  obtain ⟨o1, ho1⟩ : ∃ o : Option Nat, o = none := ⟨none, rfl⟩
  obtain ⟨co1, hco1⟩ : ∃ c : Option Nat, c = none := ⟨none, rfl⟩
  replace f9 : t 9 = slc o1 ([] : List api_Term).length co1 := by rw [ho1]; exact f9
  have b_o1 : OwnC H 97 13 c97 o1 co1 ([] : List api_Term) := by rw [ho1]; exact rfl
  have l_o1 : ∀ i, o1 = some i → i < n := by rw [ho1]; intro i e; cases e
  refine Stk.on ?_
  refine Stk.sq ?_
  obtain ⟨K1, hK1, h⟩ := jnd h
  refine Stk.jn (fun t H n => ∃ v2 : (List api_Term), ∃ v3 : (List api_Term), ∃ o4 : Option Nat, ∃ co4 : Option Nat, ∃ v5 : List api_Term, K1 v2 v3 v5 = some r ∧ t 0 = .ssl (encs c97 v2) v2.length false ∧ t 1 = .ssl (encs c97 v3) v3.length false ∧ t 9 = slc o4 v5.length co4 ∧ OwnC H 97 13 c97 o4 co4 v5 ∧ (∀ i, o4 = some i → i < n)) trivial (fun J1 hJ1 => ?_) ?_
  · skip
    refine Stk.bk ?_
    refine Stk.lo (fun μ t H n => ∃ v6 : (List api_Term), ∃ v7 : (List api_Term), ∃ o8 : Option Nat, ∃ co8 : Option Nat, ∃ v9 : List api_Term, poly_merged_api_Term_L0 F φ2 φ3 K1 μ v6 v7 v9 = some r ∧ t 0 = .ssl (encs c97 v6) v6.length false ∧ t 1 = .ssl (encs c97 v7) v7.length false ∧ t 2 = .fn (.func g2) first2 caps2 ∧ t 3 = .fn (.func g3) first3 caps3 ∧ t 9 = slc o8 v9.length co8 ∧ OwnC H 97 13 c97 o8 co8 v9 ∧ (∀ i, o8 = some i → i < n)) F ⟨a0, a1, o1, co1, ([] : List api_Term), h, f0, f1, f2, f3, f9, b_o1, l_o1⟩ ?_
    clear h f0 f1 f2 f3 f9 b_o1 l_o1
    rintro J2 hJ2 μ t H n ⟨v6, v7, o8, co8, v9, h, f0, f1, f2, f3, f9, b_o8, l_o8⟩
    cases μ with
    | zero => exact absurd h (by simp [poly_merged_api_Term_L0])
    | succ μ =>
    rw [poly_merged_api_Term_L0] at h
    refine Stk.sq ?_
    refine Stk.sq ?_
    refine Stk.rg ?_
    refine Stk.run 4 (fun t H n => t 0 = .ssl (encs c97 v6) v6.length false ∧ t 1 = .ssl (encs c97 v7) v7.length false ∧ t 2 = .fn (.func g2) first2 caps2 ∧ t 3 = .fn (.func g3) first3 caps3 ∧ t 9 = slc o8 v9.length co8 ∧ t 14 = .sc (.bool (decide (0 < (v6.length : Int)))) ∧ OwnC H 97 13 c97 o8 co8 v9 ∧ (∀ i, o8 = some i → i < n)) (fun J hJ => ?_) ?_
    · simp [-splice, f0, f1, f2, f3, f9]
      exact hJ _ _ _ ⟨by simp [f0], by simp [f1], by simp [f2], by simp [f3], by simp [f9], by simp [-splice, f0, f1, f2, f3, f9], b_o8, l_o8⟩
    clear f0 f1 f2 f3 f9 b_o8 l_o8
    rintro t H n ⟨f0, f1, f2, f3, f9, f14, b_o8, l_o8⟩
    refine Stk.jo 4 (fun t H n => t 0 = .ssl (encs c97 v6) v6.length false ∧ t 1 = .ssl (encs c97 v7) v7.length false ∧ t 2 = .fn (.func g2) first2 caps2 ∧ t 3 = .fn (.func g3) first3 caps3 ∧ t 9 = slc o8 v9.length co8 ∧ t 18 = .sc (.bool ((decide (0 < (v6.length : Int))) && (decide (0 < (v7.length : Int))))) ∧ OwnC H 97 13 c97 o8 co8 v9 ∧ (∀ i, o8 = some i → i < n)) (fun J3 hJ3 => ?_) ?_
    · rcases Bool.eq_false_or_eq_true (decide (0 < (v6.length : Int))) with hb3 | hb3
      · rw [hb3] at f14
        refine Stk.run 4 (fun t H n => t 0 = .ssl (encs c97 v6) v6.length false ∧ t 1 = .ssl (encs c97 v7) v7.length false ∧ t 2 = .fn (.func g2) first2 caps2 ∧ t 3 = .fn (.func g3) first3 caps3 ∧ t 9 = slc o8 v9.length co8 ∧ t 18 = .sc (.bool (decide (0 < (v7.length : Int)))) ∧ OwnC H 97 13 c97 o8 co8 v9 ∧ (∀ i, o8 = some i → i < n)) (fun J hJ => ?_) ?_
        · simp [-splice, f0, f1, f2, f3, f9, f14]
          exact hJ _ _ _ ⟨by simp [f0], by simp [f1], by simp [f2], by simp [f3], by simp [f9], by simp [-splice, f0, f1, f2, f3, f9, f14], b_o8, l_o8⟩
        clear f0 f1 f2 f3 f9 f14 b_o8 l_o8
        rintro t H n ⟨f0, f1, f2, f3, f9, f18, b_o8, l_o8⟩
        refine Stk.on ?_
        exact Stk.ln 0 (by decide) (hJ3 _ _ _ ⟨f0, f1, f2, f3, f9, f18.trans (congrArg (fun q => AV.sc (.bool q)) (by rw [hb3]; rfl)), b_o8, l_o8⟩)
      · rw [hb3] at f14
        refine Stk.run 4 (fun t H n => t 0 = .ssl (encs c97 v6) v6.length false ∧ t 1 = .ssl (encs c97 v7) v7.length false ∧ t 2 = .fn (.func g2) first2 caps2 ∧ t 3 = .fn (.func g3) first3 caps3 ∧ t 9 = slc o8 v9.length co8 ∧ t 18 = .sc (.bool false) ∧ OwnC H 97 13 c97 o8 co8 v9 ∧ (∀ i, o8 = some i → i < n)) (fun J hJ => ?_) ?_
        · simp [-splice, f0, f1, f2, f3, f9, f14]
          exact hJ _ _ _ ⟨by simp [f0], by simp [f1], by simp [f2], by simp [f3], by simp [f9], by simp [-splice, f0, f1, f2, f3, f9, f14], b_o8, l_o8⟩
        clear f0 f1 f2 f3 f9 f14 b_o8 l_o8
        rintro t H n ⟨f0, f1, f2, f3, f9, f18, b_o8, l_o8⟩
        refine Stk.on ?_
        exact Stk.ln 0 (by decide) (hJ3 _ _ _ ⟨f0, f1, f2, f3, f9, f18.trans (congrArg (fun q => AV.sc (.bool q)) (by rw [hb3]; rfl)), b_o8, l_o8⟩)
    clear f0 f1 f2 f3 f9 f14 b_o8 l_o8
    rintro t H n ⟨f0, f1, f2, f3, f9, f18, b_o8, l_o8⟩
    refine Stk.on ?_
    refine Stk.cond ((decide (0 < (v6.length : Int))) && (decide (0 < (v7.length : Int)))) (by exact f18) (fun hb14 => ?_) (fun hb14 => ?_)
    · have h := cT hb14 h
      refine Stk.sk ?_
      refine Stk.bk ?_
      refine Stk.sq ?_
      obtain ⟨n0, hn0⟩ : ∃ m, m = n := ⟨n, rfl⟩
      have ln0 : n0 ≤ n := Nat.le_of_eq hn0
      refine Stk.rgD [.rd [], .rd [], .rd [], .rd [], .rd [], .rd [], .rd [], .rd [], .rd []] none (by kernel_rfl) (by rfl) rfl (by simp [below]) rfl ?_
      obtain ⟨x15, hx15, h⟩ := bnd h
      obtain ⟨i0x15, i1x15, i2x15, _⟩ := idx_ok hx15
      have i5x15 : 0 < v6.length := by omega
      have i6x15 : ¬ v6 = [] := List.ne_nil_of_length_pos i5x15
      have ex15_0_97 : partOf T.T 97 (encs c97 v6) 0 = some (.agg (c97 x15)) := by
          have e0 := part_elem0 (e := c97) (z := 13) (T := T.T) (ty := 97) T.t97 (by decide) (by decide) hx15 0 (by decide)
          (try simp only [Nat.mul_one, Nat.add_zero, Int.toNat_ofNat, Nat.zero_mul, Nat.zero_add] at e0)
          exact e0.trans (ld_97_0_97 _)
      obtain ⟨x16, hx16, h⟩ := bnd h
      obtain ⟨i0x16, i1x16, i2x16, _⟩ := idx_ok hx16
      have i5x16 : 0 < v7.length := by omega
      have i6x16 : ¬ v7 = [] := List.ne_nil_of_length_pos i5x16
      have ex16_0_97 : partOf T.T 97 (encs c97 v7) 0 = some (.agg (c97 x16)) := by
          have e0 := part_elem0 (e := c97) (z := 13) (T := T.T) (ty := 97) T.t97 (by decide) (by decide) hx16 0 (by decide)
          (try simp only [Nat.mul_one, Nat.add_zero, Int.toNat_ofNat, Nat.zero_mul, Nat.zero_add] at e0)
          exact e0.trans (ld_97_0_97 _)
      refine Stk.runD 7 (fun t H n => t 0 = .ssl (encs c97 v6) v6.length false ∧ t 1 = .ssl (encs c97 v7) v7.length false ∧ t 2 = .fn (.func g2) first2 caps2 ∧ t 3 = .fn (.func g3) first3 caps3 ∧ t 9 = slc o8 v9.length co8 ∧ t 19 = .fn (.func g2) first2 caps2 ∧ t 22 = .agg (c97 x15) ∧ t 25 = .agg (c97 x16) ∧ OwnC H 97 13 c97 o8 co8 v9 ∧ (∀ i, o8 = some i → i < n) ∧ n0 ≤ n) (fun J hJ => ?_) ?_
      · simp [-splice, f0, f1, f2, f3, f9, f18, i0x15, i1x15, i5x15, i6x15, pd97, ex15_0_97, i0x16, i1x16, i5x16, i6x16, ex16_0_97]
        exact hJ _ _ _ ⟨by simp [f0], by simp [f1], by simp [f2], by simp [f3], by simp [f9], by simp [-splice, f0, f1, f2, f3, f9, f18, i0x15, i1x15, i5x15, i6x15, pd97, ex15_0_97, i0x16, i1x16, i5x16, i6x16, ex16_0_97], by simp [-splice, f0, f1, f2, f3, f9, f18, i0x15, i1x15, i5x15, i6x15, pd97, ex15_0_97, i0x16, i1x16, i5x16, i6x16, ex16_0_97], by simp [-splice, f0, f1, f2, f3, f9, f18, i0x15, i1x15, i5x15, i6x15, pd97, ex15_0_97, i0x16, i1x16, i5x16, i6x16, ex16_0_97], b_o8, l_o8, ln0⟩
      clear f0 f1 f2 f3 f9 f18 b_o8 l_o8 ln0
      rintro t H n ⟨f0, f1, f2, f3, f9, f19, f22, f25, b_o8, l_o8, ln0⟩
      obtain ⟨x17, hx17, h⟩ := bnd h
      refine Stk.cvD (g := g2) (args := first2 ++ [.agg (c97 x15), .agg (c97 x16)] ++ caps2) (args' := first2 ++ [.agg (c97 x15), .agg (c97 x16)] ++ caps2) (v := .sc (.int .i64 x17)) [] (hφ2 _ _ _ hx17) rfl (by simp) rfl (by simp [f0, f1, f2, f3, f9, f19, f22, f25]) rfl f19 (by simp [f0, f1, f2, f3, f9, f19, f22, f25]) (viewL_mid (x := [.agg (c97 x15), .agg (c97 x16)]) (y := [.agg (c97 x15), .agg (c97 x16)]) fr2.1 fr2.2 (.cons (.free (fr97 _)) (.cons (.free (fr97 _)) (.nil)))) (.inl ⟨rfl, rfl⟩) (fun t' ht' => ?_)
      refine Stk.gen (fun t H n => t 0 = .ssl (encs c97 v6) v6.length false ∧ t 1 = .ssl (encs c97 v7) v7.length false ∧ t 2 = .fn (.func g2) first2 caps2 ∧ t 3 = .fn (.func g3) first3 caps3 ∧ t 9 = slc o8 v9.length co8 ∧ t 26 = .sc (.int .i64 x17) ∧ OwnC H 97 13 c97 o8 co8 v9 ∧ (∀ i, o8 = some i → i < n) ∧ n0 ≤ n) ⟨by simp [ht', f0], by simp [ht', f1], by simp [ht', f2], by simp [ht', f3], by simp [ht', f9], by simp [ht'], b_o8, l_o8, ln0⟩ ?_
      clear f0 f1 f2 f3 f9 f19 f22 f25 b_o8 l_o8 ln0 ht' t'
      rintro t H n ⟨f0, f1, f2, f3, f9, f26, b_o8, l_o8, ln0⟩
      refine Stk.runD 1 (fun t H n => t 0 = .ssl (encs c97 v6) v6.length false ∧ t 1 = .ssl (encs c97 v7) v7.length false ∧ t 2 = .fn (.func g2) first2 caps2 ∧ t 3 = .fn (.func g3) first3 caps3 ∧ t 9 = slc o8 v9.length co8 ∧ t 10 = .sc (.int .i64 x17) ∧ OwnC H 97 13 c97 o8 co8 v9 ∧ (∀ i, o8 = some i → i < n) ∧ n0 ≤ n) (fun J hJ => ?_) ?_
      · simp [-splice, f0, f1, f2, f3, f9, f26]
        exact hJ _ _ _ ⟨by simp [f0], by simp [f1], by simp [f2], by simp [f3], by simp [f9], by simp [-splice, f0, f1, f2, f3, f9, f26], b_o8, l_o8, ln0⟩
      clear f0 f1 f2 f3 f9 f26 b_o8 l_o8 ln0
      rintro t H n ⟨f0, f1, f2, f3, f9, f10, b_o8, l_o8, ln0⟩
      refine Stk.onD ?_
      refine Stk.bk ?_
      refine Stk.sq ?_
      refine Stk.rg ?_
      refine Stk.run 3 (fun t H n => t 0 = .ssl (encs c97 v6) v6.length false ∧ t 1 = .ssl (encs c97 v7) v7.length false ∧ t 2 = .fn (.func g2) first2 caps2 ∧ t 3 = .fn (.func g3) first3 caps3 ∧ t 9 = slc o8 v9.length co8 ∧ t 10 = .sc (.int .i64 x17) ∧ t 42 = .sc (.bool (decide (x17 < 0))) ∧ OwnC H 97 13 c97 o8 co8 v9 ∧ (∀ i, o8 = some i → i < n)) (fun J hJ => ?_) ?_
      · simp [-splice, f0, f1, f2, f3, f9, f10]
        exact hJ _ _ _ ⟨by simp [f0], by simp [f1], by simp [f2], by simp [f3], by simp [f9], by simp [f10], by simp [-splice, f0, f1, f2, f3, f9, f10], b_o8, l_o8⟩
      clear f0 f1 f2 f3 f9 f10 b_o8 l_o8 ln0
      rintro t H n ⟨f0, f1, f2, f3, f9, f10, f42, b_o8, l_o8⟩
      refine Stk.on ?_
      refine Stk.cond (decide (x17 < 0)) (by exact f42) (fun hb18 => ?_) (fun hb18 => ?_)
      · have h := cT hb18 h
        obtain ⟨n0, hn0⟩ : ∃ m, m = n := ⟨n, rfl⟩
        have ln0 : n0 ≤ n := Nat.le_of_eq hn0
        refine Stk.rgD [.rd [], .rd [], .rd [], .rd [], .mem [] n0, .mem o8.toList n0, .rd [], .rd [], .rd [], .rd []] none (by kernel_rfl) (by rfl) rfl (by simp [below]) rfl ?_
        obtain ⟨x19, hx19, h⟩ := bnd h
        obtain ⟨i0x19, i1x19, i2x19, _⟩ := idx_ok hx19
        have i5x19 : 0 < v6.length := by omega
        have i6x19 : ¬ v6 = [] := List.ne_nil_of_length_pos i5x19
        have ex19_0_97 : partOf T.T 97 (encs c97 v6) 0 = some (.agg (c97 x19)) := by
            have e0 := part_elem0 (e := c97) (z := 13) (T := T.T) (ty := 97) T.t97 (by decide) (by decide) hx19 0 (by decide)
            (try simp only [Nat.mul_one, Nat.add_zero, Int.toNat_ofNat, Nat.zero_mul, Nat.zero_add] at e0)
            exact e0.trans (ld_97_0_97 _)
        refine Stk.runD 4 (fun t H n => t 0 = .ssl (encs c97 v6) v6.length false ∧ t 1 = .ssl (encs c97 v7) v7.length false ∧ t 2 = .fn (.func g2) first2 caps2 ∧ t 3 = .fn (.func g3) first3 caps3 ∧ t 45 = slc o8 v9.length co8 ∧ t 48 = .agg (c97 x19) ∧ OwnC H 97 13 c97 o8 co8 v9 ∧ (∀ i, o8 = some i → i < n) ∧ n0 ≤ n) (fun J hJ => ?_) ?_
        · simp [-splice, f0, f1, f2, f3, f9, f10, f42, i0x19, i1x19, i5x19, i6x19, pd97, ex19_0_97]
          exact hJ _ _ _ ⟨by simp [f0], by simp [f1], by simp [f2], by simp [f3], by simp [-splice, f0, f1, f2, f3, f9, f10, f42, i0x19, i1x19, i5x19, i6x19, pd97, ex19_0_97], by simp [-splice, f0, f1, f2, f3, f9, f10, f42, i0x19, i1x19, i5x19, i6x19, pd97, ex19_0_97], b_o8, l_o8, ln0⟩
        clear f0 f1 f2 f3 f9 f10 f42 b_o8 l_o8 ln0
        rintro t H n ⟨f0, f1, f2, f3, f45, f48, b_o8, l_o8, ln0⟩
        refine Stk.omD (S := []) (b := n0) rfl (fun j hj _ => upd_ne _ _ (by omega)) rfl (mop_buildN (c := c97) (z := 13) T.t36 rfl T.t97 rfl (by decide) rfl (by decide) [x19] rfl (.cons f48 rfl rfl rfl (len97 _) (by simp [length_encs]) (splice_next (c := c97) [] _ x19 rfl (by simp)) (.nil))) (by simp [f0, f1, f2, f3, f45, f48]) rfl (fun t' ht' => ?_)
        refine Stk.gen (fun t H n => ∃ b20, t 0 = .ssl (encs c97 v6) v6.length false ∧ t 1 = .ssl (encs c97 v7) v7.length false ∧ t 2 = .fn (.func g2) first2 caps2 ∧ t 3 = .fn (.func g3) first3 caps3 ∧ t 45 = slc o8 v9.length co8 ∧ t 49 = .osl b20 0 ([x19] : List api_Term).length (some ([x19] : List api_Term).length) ∧ H b20 = some (.cells (encs c97 ([x19] : List api_Term)) 97) ∧ b20 < n ∧ OwnC H 97 13 c97 o8 co8 v9 ∧ (∀ i, o8 = some i → i < n) ∧ (∀ i, o8 = some i → i ≠ b20) ∧ n0 ≤ n) ⟨n, by simp [ht', f0], by simp [ht', f1], by simp [ht', f2], by simp [ht', f3], by simp [ht', f45], by simp [ht'], upd_same _ _ _, Nat.lt_succ_self _, b_o8.mono (fun i hi => upd_ne _ _ (Nat.ne_of_lt (l_o8 i hi))), fun i hi => Nat.lt_succ_of_lt (l_o8 i hi), fun i hi => Nat.ne_of_lt (l_o8 i hi), Nat.le_succ_of_le ln0⟩ ?_
        clear f0 f1 f2 f3 f45 f48 b_o8 l_o8 ln0 ht' t'
        rintro t H n ⟨b20, f0, f1, f2, f3, f45, f49, b_b20, l_b20, b_o8, l_o8, d_b20_o8, ln0⟩
        obtain ⟨x21, hx21, h⟩ := bnd h
        obtain ⟨r1x21, r2x21, r3x21⟩ := appM_ok hx21
        obtain ⟨o22, co22, H9, n9, e9, w9, le9, fr9, kp9⟩ := append_ownC (e := c97) (z := 13) (st := 36) T.t36 rfl T.t97 rfl (by decide) rfl (by decide) b_o8 l_o8 (y := .osl b20 0 ([x19] : List api_Term).length (some ([x19] : List api_Term).length)) ([x19] : List api_Term) (elems_row b_b20 _) (all_encs ok97 _) r1x21 r2x21
        rw [r3x21] at e9 w9
        refine Stk.omD (S := o8.toList) (b := n0) rfl (fun j hj hm => kp9 j (by omega) (fun e => hm (by simp [e]))) rfl ((mop_append T.t36 rfl).trans (by rw [show ev t (.tmp 45) = t 45 from rfl, f45]; rw [show ev t (.tmp 49) = t 49 from rfl, f49];  exact e9)) (by simp [f0, f1, f2, f3, f45, f49]) rfl (fun t' ht' => ?_)
        refine Stk.gen (fun t H n => t 0 = .ssl (encs c97 v6) v6.length false ∧ t 1 = .ssl (encs c97 v7) v7.length false ∧ t 2 = .fn (.func g2) first2 caps2 ∧ t 3 = .fn (.func g3) first3 caps3 ∧ t 50 = slc o22 x21.length co22 ∧ OwnC H 97 13 c97 o22 co22 x21 ∧ (∀ i, o22 = some i → i < n) ∧ n0 ≤ n) ⟨by simp [ht', f0], by simp [ht', f1], by simp [ht', f2], by simp [ht', f3], by simp [ht'], w9, fun i hi => (fr9 i hi).2, Nat.le_trans ln0 le9⟩ ?_
        clear f0 f1 f2 f3 f45 f49 b_b20 l_b20 b_o8 l_o8 d_b20_o8 ln0 ht' t'
        rintro t H n ⟨f0, f1, f2, f3, f50, b_o22, l_o22, ln0⟩
        refine Stk.runD 1 (fun t H n => t 1 = .ssl (encs c97 v7) v7.length false ∧ t 2 = .fn (.func g2) first2 caps2 ∧ t 3 = .fn (.func g3) first3 caps3 ∧ t 50 = slc o22 x21.length co22 ∧ t 51 = .ssl (encs c97 v6) v6.length false ∧ OwnC H 97 13 c97 o22 co22 x21 ∧ (∀ i, o22 = some i → i < n) ∧ n0 ≤ n) (fun J hJ => ?_) ?_
        · simp [-splice, f0, f1, f2, f3, f50]
          exact hJ _ _ _ ⟨by simp [f1], by simp [f2], by simp [f3], by simp [f50], by simp [-splice, f0, f1, f2, f3, f50], b_o22, l_o22, ln0⟩
        clear f0 f1 f2 f3 f50 b_o22 l_o22 ln0
        rintro t H n ⟨f1, f2, f3, f50, f51, b_o22, l_o22, ln0⟩
        obtain ⟨x23, hx23, h⟩ := bnd h
        refine Stk.ovD rfl (by simp [f1, f2, f3, f50, f51]) rfl (vop_sub (c := c97) (z := 13) (l := 1) (h := (v6.length : Int)) T.t36 rfl T.t97 rfl f51 (.inr ⟨_, _, rfl, rfl⟩) (.inl ⟨rfl, rfl⟩) hx23) (by simp [f1, f2, f3, f50, f51]) rfl (fun t' ht' => ?_)
        refine Stk.gen (fun t H n => t 1 = .ssl (encs c97 v7) v7.length false ∧ t 2 = .fn (.func g2) first2 caps2 ∧ t 3 = .fn (.func g3) first3 caps3 ∧ t 50 = slc o22 x21.length co22 ∧ t 52 = .ssl (encs c97 x23) x23.length false ∧ OwnC H 97 13 c97 o22 co22 x21 ∧ (∀ i, o22 = some i → i < n) ∧ n0 ≤ n) ⟨by simp [ht', f1], by simp [ht', f2], by simp [ht', f3], by simp [ht', f50], by simp [ht'], b_o22, l_o22, ln0⟩ ?_
        clear f1 f2 f3 f50 f51 b_o22 l_o22 ln0 ht' t'
        rintro t H n ⟨f1, f2, f3, f50, f52, b_o22, l_o22, ln0⟩
        refine Stk.runD 2 (fun t H n => t 0 = .ssl (encs c97 x23) x23.length false ∧ t 1 = .ssl (encs c97 v7) v7.length false ∧ t 2 = .fn (.func g2) first2 caps2 ∧ t 3 = .fn (.func g3) first3 caps3 ∧ t 9 = slc o22 x21.length co22 ∧ OwnC H 97 13 c97 o22 co22 x21 ∧ (∀ i, o22 = some i → i < n) ∧ n0 ≤ n) (fun J hJ => ?_) ?_
        · simp [-splice, f1, f2, f3, f50, f52]
          exact hJ _ _ _ ⟨by simp [-splice, f1, f2, f3, f50, f52], by simp [f1], by simp [f2], by simp [f3], by simp [-splice, f1, f2, f3, f50, f52], b_o22, l_o22, ln0⟩
        clear f1 f2 f3 f50 f52 b_o22 l_o22 ln0
        rintro t H n ⟨f0, f1, f2, f3, f9, b_o22, l_o22, ln0⟩
        refine Stk.onD ?_
        refine Stk.bn ?_
        refine Stk.bn ?_
        exact Stk.ln μ (Nat.lt_succ_self _) (hJ2 _ _ _ _ ⟨x23, v7, o22, co22, x21, h, f0, f1, f2, f3, f9, b_o22, l_o22⟩)
      · have h := cF hb18 h
        refine Stk.sq ?_
        refine Stk.rg ?_
        refine Stk.run 3 (fun t H n => t 0 = .ssl (encs c97 v6) v6.length false ∧ t 1 = .ssl (encs c97 v7) v7.length false ∧ t 2 = .fn (.func g2) first2 caps2 ∧ t 3 = .fn (.func g3) first3 caps3 ∧ t 9 = slc o8 v9.length co8 ∧ t 53 = .sc (.bool (decide (0 < x17))) ∧ OwnC H 97 13 c97 o8 co8 v9 ∧ (∀ i, o8 = some i → i < n)) (fun J hJ => ?_) ?_
        · simp [-splice, f0, f1, f2, f3, f9, f10, f42]
          exact hJ _ _ _ ⟨by simp [f0], by simp [f1], by simp [f2], by simp [f3], by simp [f9], by simp [-splice, f0, f1, f2, f3, f9, f10, f42], b_o8, l_o8⟩
        clear f0 f1 f2 f3 f9 f10 f42 b_o8 l_o8
        rintro t H n ⟨f0, f1, f2, f3, f9, f53, b_o8, l_o8⟩
        refine Stk.on ?_
        refine Stk.cond (decide (0 < x17)) (by exact f53) (fun hb24 => ?_) (fun hb24 => ?_)
        · have h := cT hb24 h
          obtain ⟨n0, hn0⟩ : ∃ m, m = n := ⟨n, rfl⟩
          have ln0 : n0 ≤ n := Nat.le_of_eq hn0
          refine Stk.rgD [.rd [], .rd [], .rd [], .rd [], .mem [] n0, .mem o8.toList n0, .rd [], .rd [], .rd [], .rd []] none (by kernel_rfl) (by rfl) rfl (by simp [below]) rfl ?_
          obtain ⟨x25, hx25, h⟩ := bnd h
          obtain ⟨i0x25, i1x25, i2x25, _⟩ := idx_ok hx25
          have i5x25 : 0 < v7.length := by omega
          have i6x25 : ¬ v7 = [] := List.ne_nil_of_length_pos i5x25
          have ex25_0_97 : partOf T.T 97 (encs c97 v7) 0 = some (.agg (c97 x25)) := by
              have e0 := part_elem0 (e := c97) (z := 13) (T := T.T) (ty := 97) T.t97 (by decide) (by decide) hx25 0 (by decide)
              (try simp only [Nat.mul_one, Nat.add_zero, Int.toNat_ofNat, Nat.zero_mul, Nat.zero_add] at e0)
              exact e0.trans (ld_97_0_97 _)
          refine Stk.runD 4 (fun t H n => t 0 = .ssl (encs c97 v6) v6.length false ∧ t 1 = .ssl (encs c97 v7) v7.length false ∧ t 2 = .fn (.func g2) first2 caps2 ∧ t 3 = .fn (.func g3) first3 caps3 ∧ t 56 = slc o8 v9.length co8 ∧ t 59 = .agg (c97 x25) ∧ OwnC H 97 13 c97 o8 co8 v9 ∧ (∀ i, o8 = some i → i < n) ∧ n0 ≤ n) (fun J hJ => ?_) ?_
          · simp [-splice, f0, f1, f2, f3, f9, f53, i0x25, i1x25, i5x25, i6x25, pd97, ex25_0_97]
            exact hJ _ _ _ ⟨by simp [f0], by simp [f1], by simp [f2], by simp [f3], by simp [-splice, f0, f1, f2, f3, f9, f53, i0x25, i1x25, i5x25, i6x25, pd97, ex25_0_97], by simp [-splice, f0, f1, f2, f3, f9, f53, i0x25, i1x25, i5x25, i6x25, pd97, ex25_0_97], b_o8, l_o8, ln0⟩
          clear f0 f1 f2 f3 f9 f53 b_o8 l_o8 ln0
          rintro t H n ⟨f0, f1, f2, f3, f56, f59, b_o8, l_o8, ln0⟩
          refine Stk.omD (S := []) (b := n0) rfl (fun j hj _ => upd_ne _ _ (by omega)) rfl (mop_buildN (c := c97) (z := 13) T.t36 rfl T.t97 rfl (by decide) rfl (by decide) [x25] rfl (.cons f59 rfl rfl rfl (len97 _) (by simp [length_encs]) (splice_next (c := c97) [] _ x25 rfl (by simp)) (.nil))) (by simp [f0, f1, f2, f3, f56, f59]) rfl (fun t' ht' => ?_)
          refine Stk.gen (fun t H n => ∃ b26, t 0 = .ssl (encs c97 v6) v6.length false ∧ t 1 = .ssl (encs c97 v7) v7.length false ∧ t 2 = .fn (.func g2) first2 caps2 ∧ t 3 = .fn (.func g3) first3 caps3 ∧ t 56 = slc o8 v9.length co8 ∧ t 60 = .osl b26 0 ([x25] : List api_Term).length (some ([x25] : List api_Term).length) ∧ H b26 = some (.cells (encs c97 ([x25] : List api_Term)) 97) ∧ b26 < n ∧ OwnC H 97 13 c97 o8 co8 v9 ∧ (∀ i, o8 = some i → i < n) ∧ (∀ i, o8 = some i → i ≠ b26) ∧ n0 ≤ n) ⟨n, by simp [ht', f0], by simp [ht', f1], by simp [ht', f2], by simp [ht', f3], by simp [ht', f56], by simp [ht'], upd_same _ _ _, Nat.lt_succ_self _, b_o8.mono (fun i hi => upd_ne _ _ (Nat.ne_of_lt (l_o8 i hi))), fun i hi => Nat.lt_succ_of_lt (l_o8 i hi), fun i hi => Nat.ne_of_lt (l_o8 i hi), Nat.le_succ_of_le ln0⟩ ?_
          clear f0 f1 f2 f3 f56 f59 b_o8 l_o8 ln0 ht' t'
          rintro t H n ⟨b26, f0, f1, f2, f3, f56, f60, b_b26, l_b26, b_o8, l_o8, d_b26_o8, ln0⟩
          obtain ⟨x27, hx27, h⟩ := bnd h
          obtain ⟨r1x27, r2x27, r3x27⟩ := appM_ok hx27
          obtain ⟨o28, co28, H9, n9, e9, w9, le9, fr9, kp9⟩ := append_ownC (e := c97) (z := 13) (st := 36) T.t36 rfl T.t97 rfl (by decide) rfl (by decide) b_o8 l_o8 (y := .osl b26 0 ([x25] : List api_Term).length (some ([x25] : List api_Term).length)) ([x25] : List api_Term) (elems_row b_b26 _) (all_encs ok97 _) r1x27 r2x27
          rw [r3x27] at e9 w9
          refine Stk.omD (S := o8.toList) (b := n0) rfl (fun j hj hm => kp9 j (by omega) (fun e => hm (by simp [e]))) rfl ((mop_append T.t36 rfl).trans (by rw [show ev t (.tmp 56) = t 56 from rfl, f56]; rw [show ev t (.tmp 60) = t 60 from rfl, f60];  exact e9)) (by simp [f0, f1, f2, f3, f56, f60]) rfl (fun t' ht' => ?_)
          refine Stk.gen (fun t H n => t 0 = .ssl (encs c97 v6) v6.length false ∧ t 1 = .ssl (encs c97 v7) v7.length false ∧ t 2 = .fn (.func g2) first2 caps2 ∧ t 3 = .fn (.func g3) first3 caps3 ∧ t 61 = slc o28 x27.length co28 ∧ OwnC H 97 13 c97 o28 co28 x27 ∧ (∀ i, o28 = some i → i < n) ∧ n0 ≤ n) ⟨by simp [ht', f0], by simp [ht', f1], by simp [ht', f2], by simp [ht', f3], by simp [ht'], w9, fun i hi => (fr9 i hi).2, Nat.le_trans ln0 le9⟩ ?_
          clear f0 f1 f2 f3 f56 f60 b_b26 l_b26 b_o8 l_o8 d_b26_o8 ln0 ht' t'
          rintro t H n ⟨f0, f1, f2, f3, f61, b_o28, l_o28, ln0⟩
          refine Stk.runD 1 (fun t H n => t 0 = .ssl (encs c97 v6) v6.length false ∧ t 2 = .fn (.func g2) first2 caps2 ∧ t 3 = .fn (.func g3) first3 caps3 ∧ t 61 = slc o28 x27.length co28 ∧ t 62 = .ssl (encs c97 v7) v7.length false ∧ OwnC H 97 13 c97 o28 co28 x27 ∧ (∀ i, o28 = some i → i < n) ∧ n0 ≤ n) (fun J hJ => ?_) ?_
          · simp [-splice, f0, f1, f2, f3, f61]
            exact hJ _ _ _ ⟨by simp [f0], by simp [f2], by simp [f3], by simp [f61], by simp [-splice, f0, f1, f2, f3, f61], b_o28, l_o28, ln0⟩
          clear f0 f1 f2 f3 f61 b_o28 l_o28 ln0
          rintro t H n ⟨f0, f2, f3, f61, f62, b_o28, l_o28, ln0⟩
          obtain ⟨x29, hx29, h⟩ := bnd h
          refine Stk.ovD rfl (by simp [f0, f2, f3, f61, f62]) rfl (vop_sub (c := c97) (z := 13) (l := 1) (h := (v7.length : Int)) T.t36 rfl T.t97 rfl f62 (.inr ⟨_, _, rfl, rfl⟩) (.inl ⟨rfl, rfl⟩) hx29) (by simp [f0, f2, f3, f61, f62]) rfl (fun t' ht' => ?_)
          refine Stk.gen (fun t H n => t 0 = .ssl (encs c97 v6) v6.length false ∧ t 2 = .fn (.func g2) first2 caps2 ∧ t 3 = .fn (.func g3) first3 caps3 ∧ t 61 = slc o28 x27.length co28 ∧ t 63 = .ssl (encs c97 x29) x29.length false ∧ OwnC H 97 13 c97 o28 co28 x27 ∧ (∀ i, o28 = some i → i < n) ∧ n0 ≤ n) ⟨by simp [ht', f0], by simp [ht', f2], by simp [ht', f3], by simp [ht', f61], by simp [ht'], b_o28, l_o28, ln0⟩ ?_
          clear f0 f2 f3 f61 f62 b_o28 l_o28 ln0 ht' t'
          rintro t H n ⟨f0, f2, f3, f61, f63, b_o28, l_o28, ln0⟩
          refine Stk.runD 2 (fun t H n => t 0 = .ssl (encs c97 v6) v6.length false ∧ t 1 = .ssl (encs c97 x29) x29.length false ∧ t 2 = .fn (.func g2) first2 caps2 ∧ t 3 = .fn (.func g3) first3 caps3 ∧ t 9 = slc o28 x27.length co28 ∧ OwnC H 97 13 c97 o28 co28 x27 ∧ (∀ i, o28 = some i → i < n) ∧ n0 ≤ n) (fun J hJ => ?_) ?_
          · simp [-splice, f0, f2, f3, f61, f63]
            exact hJ _ _ _ ⟨by simp [f0], by simp [-splice, f0, f2, f3, f61, f63], by simp [f2], by simp [f3], by simp [-splice, f0, f2, f3, f61, f63], b_o28, l_o28, ln0⟩
          clear f0 f2 f3 f61 f63 b_o28 l_o28 ln0
          rintro t H n ⟨f0, f1, f2, f3, f9, b_o28, l_o28, ln0⟩
          refine Stk.onD ?_
          refine Stk.bn ?_
          refine Stk.bn ?_
          exact Stk.ln μ (Nat.lt_succ_self _) (hJ2 _ _ _ _ ⟨v6, x29, o28, co28, x27, h, f0, f1, f2, f3, f9, b_o28, l_o28⟩)
        · have h := cF hb24 h
          obtain ⟨n0, hn0⟩ : ∃ m, m = n := ⟨n, rfl⟩
          have ln0 : n0 ≤ n := Nat.le_of_eq hn0
          refine Stk.rgD [.rd [], .rd [], .rd [], .rd [], .rd [], .rd [], .rd [], .rd [], .rd [], .mem [] n0, .mem o8.toList n0, .rd [], .rd [], .rd [], .rd [], .rd [], .rd [], .rd []] none (by kernel_rfl) (by rfl) rfl (by simp [below]) rfl ?_
          obtain ⟨x30, hx30, h⟩ := bnd h
          obtain ⟨i0x30, i1x30, i2x30, _⟩ := idx_ok hx30
          have i5x30 : 0 < v6.length := by omega
          have i6x30 : ¬ v6 = [] := List.ne_nil_of_length_pos i5x30
          have ex30_0_97 : partOf T.T 97 (encs c97 v6) 0 = some (.agg (c97 x30)) := by
              have e0 := part_elem0 (e := c97) (z := 13) (T := T.T) (ty := 97) T.t97 (by decide) (by decide) hx30 0 (by decide)
              (try simp only [Nat.mul_one, Nat.add_zero, Int.toNat_ofNat, Nat.zero_mul, Nat.zero_add] at e0)
              exact e0.trans (ld_97_0_97 _)
          obtain ⟨x31, hx31, h⟩ := bnd h
          obtain ⟨i0x31, i1x31, i2x31, _⟩ := idx_ok hx31
          have i5x31 : 0 < v7.length := by omega
          have i6x31 : ¬ v7 = [] := List.ne_nil_of_length_pos i5x31
          have ex31_0_97 : partOf T.T 97 (encs c97 v7) 0 = some (.agg (c97 x31)) := by
              have e0 := part_elem0 (e := c97) (z := 13) (T := T.T) (ty := 97) T.t97 (by decide) (by decide) hx31 0 (by decide)
              (try simp only [Nat.mul_one, Nat.add_zero, Int.toNat_ofNat, Nat.zero_mul, Nat.zero_add] at e0)
              exact e0.trans (ld_97_0_97 _)
          refine Stk.runD 8 (fun t H n => t 0 = .ssl (encs c97 v6) v6.length false ∧ t 1 = .ssl (encs c97 v7) v7.length false ∧ t 2 = .fn (.func g2) first2 caps2 ∧ t 3 = .fn (.func g3) first3 caps3 ∧ t 27 = slc o8 v9.length co8 ∧ t 28 = .fn (.func g3) first3 caps3 ∧ t 31 = .agg (c97 x30) ∧ t 34 = .agg (c97 x31) ∧ OwnC H 97 13 c97 o8 co8 v9 ∧ (∀ i, o8 = some i → i < n) ∧ n0 ≤ n) (fun J hJ => ?_) ?_
          · simp [-splice, f0, f1, f2, f3, f9, f53, i0x30, i1x30, i5x30, i6x30, pd97, ex30_0_97, i0x31, i1x31, i5x31, i6x31, ex31_0_97]
            exact hJ _ _ _ ⟨by simp [f0], by simp [f1], by simp [f2], by simp [f3], by simp [-splice, f0, f1, f2, f3, f9, f53, i0x30, i1x30, i5x30, i6x30, pd97, ex30_0_97, i0x31, i1x31, i5x31, i6x31, ex31_0_97], by simp [-splice, f0, f1, f2, f3, f9, f53, i0x30, i1x30, i5x30, i6x30, pd97, ex30_0_97, i0x31, i1x31, i5x31, i6x31, ex31_0_97], by simp [-splice, f0, f1, f2, f3, f9, f53, i0x30, i1x30, i5x30, i6x30, pd97, ex30_0_97, i0x31, i1x31, i5x31, i6x31, ex31_0_97], by simp [-splice, f0, f1, f2, f3, f9, f53, i0x30, i1x30, i5x30, i6x30, pd97, ex30_0_97, i0x31, i1x31, i5x31, i6x31, ex31_0_97], b_o8, l_o8, ln0⟩
          clear f0 f1 f2 f3 f9 f53 b_o8 l_o8 ln0
          rintro t H n ⟨f0, f1, f2, f3, f27, f28, f31, f34, b_o8, l_o8, ln0⟩
          obtain ⟨x32, hx32, h⟩ := bnd h
          refine Stk.cvD (g := g3) (args := first3 ++ [.agg (c97 x30), .agg (c97 x31)] ++ caps3) (args' := first3 ++ [.agg (c97 x30), .agg (c97 x31)] ++ caps3) (v := .agg (c97 x32)) [] (hφ3 _ _ _ hx32) rfl (by simp) rfl (by simp [f0, f1, f2, f3, f27, f28, f31, f34]) rfl f28 (by simp [f0, f1, f2, f3, f27, f28, f31, f34]) (viewL_mid (x := [.agg (c97 x30), .agg (c97 x31)]) (y := [.agg (c97 x30), .agg (c97 x31)]) fr3.1 fr3.2 (.cons (.free (fr97 _)) (.cons (.free (fr97 _)) (.nil)))) (.inl ⟨rfl, fr97 _⟩) (fun t' ht' => ?_)
          refine Stk.gen (fun t H n => t 0 = .ssl (encs c97 v6) v6.length false ∧ t 1 = .ssl (encs c97 v7) v7.length false ∧ t 2 = .fn (.func g2) first2 caps2 ∧ t 3 = .fn (.func g3) first3 caps3 ∧ t 27 = slc o8 v9.length co8 ∧ t 35 = .agg (c97 x32) ∧ OwnC H 97 13 c97 o8 co8 v9 ∧ (∀ i, o8 = some i → i < n) ∧ n0 ≤ n) ⟨by simp [ht', f0], by simp [ht', f1], by simp [ht', f2], by simp [ht', f3], by simp [ht', f27], by simp [ht'], b_o8, l_o8, ln0⟩ ?_
          clear f0 f1 f2 f3 f27 f28 f31 f34 b_o8 l_o8 ln0 ht' t'
          rintro t H n ⟨f0, f1, f2, f3, f27, f35, b_o8, l_o8, ln0⟩
          refine Stk.omD (S := []) (b := n0) rfl (fun j hj _ => upd_ne _ _ (by omega)) rfl (mop_buildN (c := c97) (z := 13) T.t36 rfl T.t97 rfl (by decide) rfl (by decide) [x32] rfl (.cons f35 rfl rfl rfl (len97 _) (by simp [length_encs]) (splice_next (c := c97) [] _ x32 rfl (by simp)) (.nil))) (by simp [f0, f1, f2, f3, f27, f35]) rfl (fun t' ht' => ?_)
          refine Stk.gen (fun t H n => ∃ b33, t 0 = .ssl (encs c97 v6) v6.length false ∧ t 1 = .ssl (encs c97 v7) v7.length false ∧ t 2 = .fn (.func g2) first2 caps2 ∧ t 3 = .fn (.func g3) first3 caps3 ∧ t 27 = slc o8 v9.length co8 ∧ t 36 = .osl b33 0 ([x32] : List api_Term).length (some ([x32] : List api_Term).length) ∧ H b33 = some (.cells (encs c97 ([x32] : List api_Term)) 97) ∧ b33 < n ∧ OwnC H 97 13 c97 o8 co8 v9 ∧ (∀ i, o8 = some i → i < n) ∧ (∀ i, o8 = some i → i ≠ b33) ∧ n0 ≤ n) ⟨n, by simp [ht', f0], by simp [ht', f1], by simp [ht', f2], by simp [ht', f3], by simp [ht', f27], by simp [ht'], upd_same _ _ _, Nat.lt_succ_self _, b_o8.mono (fun i hi => upd_ne _ _ (Nat.ne_of_lt (l_o8 i hi))), fun i hi => Nat.lt_succ_of_lt (l_o8 i hi), fun i hi => Nat.ne_of_lt (l_o8 i hi), Nat.le_succ_of_le ln0⟩ ?_
          clear f0 f1 f2 f3 f27 f35 b_o8 l_o8 ln0 ht' t'
          rintro t H n ⟨b33, f0, f1, f2, f3, f27, f36, b_b33, l_b33, b_o8, l_o8, d_b33_o8, ln0⟩
          obtain ⟨x34, hx34, h⟩ := bnd h
          obtain ⟨r1x34, r2x34, r3x34⟩ := appM_ok hx34
          obtain ⟨o35, co35, H9, n9, e9, w9, le9, fr9, kp9⟩ := append_ownC (e := c97) (z := 13) (st := 36) T.t36 rfl T.t97 rfl (by decide) rfl (by decide) b_o8 l_o8 (y := .osl b33 0 ([x32] : List api_Term).length (some ([x32] : List api_Term).length)) ([x32] : List api_Term) (elems_row b_b33 _) (all_encs ok97 _) r1x34 r2x34
          rw [r3x34] at e9 w9
          refine Stk.omD (S := o8.toList) (b := n0) rfl (fun j hj hm => kp9 j (by omega) (fun e => hm (by simp [e]))) rfl ((mop_append T.t36 rfl).trans (by rw [show ev t (.tmp 27) = t 27 from rfl, f27]; rw [show ev t (.tmp 36) = t 36 from rfl, f36];  exact e9)) (by simp [f0, f1, f2, f3, f27, f36]) rfl (fun t' ht' => ?_)
          refine Stk.gen (fun t H n => t 0 = .ssl (encs c97 v6) v6.length false ∧ t 1 = .ssl (encs c97 v7) v7.length false ∧ t 2 = .fn (.func g2) first2 caps2 ∧ t 3 = .fn (.func g3) first3 caps3 ∧ t 37 = slc o35 x34.length co35 ∧ OwnC H 97 13 c97 o35 co35 x34 ∧ (∀ i, o35 = some i → i < n) ∧ n0 ≤ n) ⟨by simp [ht', f0], by simp [ht', f1], by simp [ht', f2], by simp [ht', f3], by simp [ht'], w9, fun i hi => (fr9 i hi).2, Nat.le_trans ln0 le9⟩ ?_
          clear f0 f1 f2 f3 f27 f36 b_b33 l_b33 b_o8 l_o8 d_b33_o8 ln0 ht' t'
          rintro t H n ⟨f0, f1, f2, f3, f37, b_o35, l_o35, ln0⟩
          refine Stk.runD 1 (fun t H n => t 1 = .ssl (encs c97 v7) v7.length false ∧ t 2 = .fn (.func g2) first2 caps2 ∧ t 3 = .fn (.func g3) first3 caps3 ∧ t 37 = slc o35 x34.length co35 ∧ t 38 = .ssl (encs c97 v6) v6.length false ∧ OwnC H 97 13 c97 o35 co35 x34 ∧ (∀ i, o35 = some i → i < n) ∧ n0 ≤ n) (fun J hJ => ?_) ?_
          · simp [-splice, f0, f1, f2, f3, f37]
            exact hJ _ _ _ ⟨by simp [f1], by simp [f2], by simp [f3], by simp [f37], by simp [-splice, f0, f1, f2, f3, f37], b_o35, l_o35, ln0⟩
          clear f0 f1 f2 f3 f37 b_o35 l_o35 ln0
          rintro t H n ⟨f1, f2, f3, f37, f38, b_o35, l_o35, ln0⟩
          obtain ⟨x36, hx36, h⟩ := bnd h
          refine Stk.ovD rfl (by simp [f1, f2, f3, f37, f38]) rfl (vop_sub (c := c97) (z := 13) (l := 1) (h := (v6.length : Int)) T.t36 rfl T.t97 rfl f38 (.inr ⟨_, _, rfl, rfl⟩) (.inl ⟨rfl, rfl⟩) hx36) (by simp [f1, f2, f3, f37, f38]) rfl (fun t' ht' => ?_)
          refine Stk.gen (fun t H n => t 1 = .ssl (encs c97 v7) v7.length false ∧ t 2 = .fn (.func g2) first2 caps2 ∧ t 3 = .fn (.func g3) first3 caps3 ∧ t 37 = slc o35 x34.length co35 ∧ t 39 = .ssl (encs c97 x36) x36.length false ∧ OwnC H 97 13 c97 o35 co35 x34 ∧ (∀ i, o35 = some i → i < n) ∧ n0 ≤ n) ⟨by simp [ht', f1], by simp [ht', f2], by simp [ht', f3], by simp [ht', f37], by simp [ht'], b_o35, l_o35, ln0⟩ ?_
          clear f1 f2 f3 f37 f38 b_o35 l_o35 ln0 ht' t'
          rintro t H n ⟨f1, f2, f3, f37, f39, b_o35, l_o35, ln0⟩
          refine Stk.runD 1 (fun t H n => t 2 = .fn (.func g2) first2 caps2 ∧ t 3 = .fn (.func g3) first3 caps3 ∧ t 37 = slc o35 x34.length co35 ∧ t 39 = .ssl (encs c97 x36) x36.length false ∧ t 40 = .ssl (encs c97 v7) v7.length false ∧ OwnC H 97 13 c97 o35 co35 x34 ∧ (∀ i, o35 = some i → i < n) ∧ n0 ≤ n) (fun J hJ => ?_) ?_
          · simp [-splice, f1, f2, f3, f37, f39]
            exact hJ _ _ _ ⟨by simp [f2], by simp [f3], by simp [f37], by simp [f39], by simp [-splice, f1, f2, f3, f37, f39], b_o35, l_o35, ln0⟩
          clear f1 f2 f3 f37 f39 b_o35 l_o35 ln0
          rintro t H n ⟨f2, f3, f37, f39, f40, b_o35, l_o35, ln0⟩
          obtain ⟨x37, hx37, h⟩ := bnd h
          refine Stk.ovD rfl (by simp [f2, f3, f37, f39, f40]) rfl (vop_sub (c := c97) (z := 13) (l := 1) (h := (v7.length : Int)) T.t36 rfl T.t97 rfl f40 (.inr ⟨_, _, rfl, rfl⟩) (.inl ⟨rfl, rfl⟩) hx37) (by simp [f2, f3, f37, f39, f40]) rfl (fun t' ht' => ?_)
          refine Stk.gen (fun t H n => t 2 = .fn (.func g2) first2 caps2 ∧ t 3 = .fn (.func g3) first3 caps3 ∧ t 37 = slc o35 x34.length co35 ∧ t 39 = .ssl (encs c97 x36) x36.length false ∧ t 41 = .ssl (encs c97 x37) x37.length false ∧ OwnC H 97 13 c97 o35 co35 x34 ∧ (∀ i, o35 = some i → i < n) ∧ n0 ≤ n) ⟨by simp [ht', f2], by simp [ht', f3], by simp [ht', f37], by simp [ht', f39], by simp [ht'], b_o35, l_o35, ln0⟩ ?_
          clear f2 f3 f37 f39 f40 b_o35 l_o35 ln0 ht' t'
          rintro t H n ⟨f2, f3, f37, f39, f41, b_o35, l_o35, ln0⟩
          refine Stk.runD 3 (fun t H n => t 0 = .ssl (encs c97 x36) x36.length false ∧ t 1 = .ssl (encs c97 x37) x37.length false ∧ t 2 = .fn (.func g2) first2 caps2 ∧ t 3 = .fn (.func g3) first3 caps3 ∧ t 9 = slc o35 x34.length co35 ∧ OwnC H 97 13 c97 o35 co35 x34 ∧ (∀ i, o35 = some i → i < n) ∧ n0 ≤ n) (fun J hJ => ?_) ?_
          · simp [-splice, f2, f3, f37, f39, f41]
            exact hJ _ _ _ ⟨by simp [-splice, f2, f3, f37, f39, f41], by simp [-splice, f2, f3, f37, f39, f41], by simp [f2], by simp [f3], by simp [-splice, f2, f3, f37, f39, f41], b_o35, l_o35, ln0⟩
          clear f2 f3 f37 f39 f41 b_o35 l_o35 ln0
          rintro t H n ⟨f0, f1, f2, f3, f9, b_o35, l_o35, ln0⟩
          refine Stk.onD ?_
          refine Stk.bn ?_
          refine Stk.bn ?_
          exact Stk.ln μ (Nat.lt_succ_self _) (hJ2 _ _ _ _ ⟨x36, x37, o35, co35, x34, h, f0, f1, f2, f3, f9, b_o35, l_o35⟩)
    · have h := cF hb14 h
      refine Stk.ex rfl ?_
      exact Stk.ln 0 (by decide) (hJ1 _ _ _ ⟨v6, v7, o8, co8, v9, h, f0, f1, f9, b_o8, l_o8⟩)
  clear h f0 f1 f2 f3 f9 b_o1 l_o1
  rintro t H n ⟨v2, v3, o4, co4, v5, h, f0, f1, f9, b_o4, l_o4⟩
  subst hK1
  refine Stk.sq ?_
  refine Stk.rg ?_
  refine Stk.run 2 (fun t H n => t 1 = .ssl (encs c97 v3) v3.length false ∧ t 64 = slc o4 v5.length co4 ∧ t 65 = .ssl (encs c97 v2) v2.length false ∧ OwnC H 97 13 c97 o4 co4 v5 ∧ (∀ i, o4 = some i → i < n)) (fun J hJ => ?_) ?_
  · simp [-splice, f0, f1, f9]
    exact hJ _ _ _ ⟨by simp [f1], by simp [-splice, f0, f1, f9], by simp [-splice, f0, f1, f9], b_o4, l_o4⟩
  clear f0 f1 f9 b_o4 l_o4
  rintro t H n ⟨f1, f64, f65, b_o4, l_o4⟩
  obtain ⟨x38, hx38, h⟩ := bnd h
  obtain ⟨r1x38, r2x38, r3x38⟩ := appM_ok hx38
  obtain ⟨o39, co39, H9, n9, e9, w9, le9, fr9, kp9⟩ := append_ownC (e := c97) (z := 13) (st := 36) T.t36 rfl T.t97 rfl (by decide) rfl (by decide) b_o4 l_o4 (y := .ssl (encs c97 v2) v2.length false) v2 (elems_ssl) (all_encs ok97 _) r1x38 r2x38
  rw [r3x38] at e9 w9
  refine Stk.om ((mop_append T.t36 rfl).trans (by rw [show ev t (.tmp 64) = t 64 from rfl, f64]; rw [show ev t (.tmp 65) = t 65 from rfl, f65];  exact e9)) (by simp [f1, f64, f65]) rfl (fun t' ht' => ?_)
  refine Stk.gen (fun t H n => t 1 = .ssl (encs c97 v3) v3.length false ∧ t 66 = slc o39 x38.length co39 ∧ OwnC H 97 13 c97 o39 co39 x38 ∧ (∀ i, o39 = some i → i < n)) ⟨by simp [ht', f1], by simp [ht'], w9, fun i hi => (fr9 i hi).2⟩ ?_
  clear f1 f64 f65 b_o4 l_o4 ht' t'
  rintro t H n ⟨f1, f66, b_o39, l_o39⟩
  refine Stk.run 1 (fun t H n => t 66 = slc o39 x38.length co39 ∧ t 67 = .ssl (encs c97 v3) v3.length false ∧ OwnC H 97 13 c97 o39 co39 x38 ∧ (∀ i, o39 = some i → i < n)) (fun J hJ => ?_) ?_
  · simp [-splice, f1, f66]
    exact hJ _ _ _ ⟨by simp [f66], by simp [-splice, f1, f66], b_o39, l_o39⟩
  clear f1 f66 b_o39 l_o39
  rintro t H n ⟨f66, f67, b_o39, l_o39⟩
  obtain ⟨x40, hx40, h⟩ := bnd h
  obtain ⟨r1x40, r2x40, r3x40⟩ := appM_ok hx40
  obtain ⟨o41, co41, H9, n9, e9, w9, le9, fr9, kp9⟩ := append_ownC (e := c97) (z := 13) (st := 36) T.t36 rfl T.t97 rfl (by decide) rfl (by decide) b_o39 l_o39 (y := .ssl (encs c97 v3) v3.length false) v3 (elems_ssl) (all_encs ok97 _) r1x40 r2x40
  rw [r3x40] at e9 w9
  refine Stk.om ((mop_append T.t36 rfl).trans (by rw [show ev t (.tmp 66) = t 66 from rfl, f66]; rw [show ev t (.tmp 67) = t 67 from rfl, f67];  exact e9)) (by simp [f66, f67]) rfl (fun t' ht' => ?_)
  refine Stk.gen (fun t H n => t 68 = slc o41 x40.length co41 ∧ OwnC H 97 13 c97 o41 co41 x40 ∧ (∀ i, o41 = some i → i < n)) ⟨by simp [ht'], w9, fun i hi => (fr9 i hi).2⟩ ?_
  clear f66 f67 b_o39 l_o39 ht' t'
  rintro t H n ⟨f68, b_o41, l_o41⟩
  refine Stk.run 1 (fun t H n => t 8 = slc o41 x40.length co41 ∧ OwnC H 97 13 c97 o41 co41 x40 ∧ (∀ i, o41 = some i → i < n)) (fun J hJ => ?_) ?_
  · simp [-splice, f68]
    exact hJ _ _ _ ⟨by simp [-splice, f68], b_o41, l_o41⟩
  clear f68 b_o41 l_o41
  rintro t H n ⟨f8, b_o41, l_o41⟩
  refine Stk.wkf trivial o41.toList 8 (.ssl (encs c97 x40) x40.length false) (by rw [f8]; exact .inr (.inr (view_ownC fr97 b_o41 (fun i hi => by simp [hi])))) (fun t' H' ht' hH' => ?_)
  refine Stk.gen (fun t H n => t 8 = .ssl (encs c97 x40) x40.length false) (by simp [ht', f8]) ?_
  clear f8 b_o41 l_o41 hH' ht' t' H'
  rintro t H n f8
  refine Stk.on ?_
  refine Stk.rt ?_
  have hq := Option.some.inj h; subst hq
  exact (hr _ _ _ (.ssl (encs c97 x40) x40.length false) ([]) (by simp [f8]) (.inr (.inr (.free (freeL_encs fr97 _))))).1
theorem ok_cmp_isNaN_uint8 (F : Nat) (a0 : Int) (r : Bool) (h : cmp_isNaN_uint8 F a0 = some r) : RunF Try.prog T.T 109 [.sc (.int .u8 a0)] (.sc (.bool r)) := by
  rw [cmp_isNaN_uint8] at h
  refine RunF.z Try.func109 rfl rfl rfl rfl rfl (fun C hr => ?_)
  refine Stk.gen (fun t H n => t 0 = .sc (.int .u8 a0)) (by simp) ?_
  rintro t H n f0
  refine Stk.sq ?_
  refine Stk.rg ?_
  refine Stk.run 1 (fun t H n => t 0 = .sc (.int .u8 a0)) (fun J hJ => ?_) ?_
  · simp [-splice, f0]
    exact hJ _ _ _ (by simp [f0])
  clear f0
  rintro t H n f0
  refine Stk.on ?_
  refine Stk.sq ?_
  refine Stk.rg ?_
  refine Stk.run 4 (fun t H n => t 2 = .sc (.bool (a0 != a0))) (fun J hJ => ?_) ?_
  · simp [-splice, f0]
    exact hJ _ _ _ (by simp [-splice, f0])
  clear f0
  rintro t H n f2
  refine Stk.on ?_
  refine Stk.rt ?_
  have hq := Option.some.inj h; subst hq
  exact (hr _ _ _ (.sc (.bool (a0 != a0))) ([]) (by simp [f2]) (.inr (.inr (.free (rfl))))).1
theorem ok_cmp_Compare_uint8 (F : Nat) (a0 : Int) (a1 : Int) (r : Int) (h : cmp_Compare_uint8 F a0 a1 = some r) : RunF Try.prog T.T 102 [.sc (.int .u8 a0), .sc (.int .u8 a1)] (.sc (.int .i64 r)) := by
  rw [cmp_Compare_uint8] at h
  refine RunF.z Try.func102 rfl rfl rfl rfl rfl (fun C hr => ?_)
  refine Stk.gen (fun t H n => t 0 = .sc (.int .u8 a0) ∧ t 1 = .sc (.int .u8 a1)) ⟨by simp, by simp⟩ ?_
  rintro t H n ⟨f0, f1⟩
  refine Stk.sq ?_
  refine Stk.rg ?_
  refine Stk.run 1 (fun t H n => t 0 = .sc (.int .u8 a0) ∧ t 1 = .sc (.int .u8 a1)) (fun J hJ => ?_) ?_
  · simp [-splice, f0, f1]
    exact hJ _ _ _ ⟨by simp [f0], by simp [f1]⟩
  clear f0 f1
  rintro t H n ⟨f0, f1⟩
  refine Stk.on ?_
  refine Stk.sq ?_
  refine Stk.rg ?_
  refine Stk.run 1 (fun t H n => t 0 = .sc (.int .u8 a0) ∧ t 1 = .sc (.int .u8 a1) ∧ t 7 = .sc (.int .u8 a0)) (fun J hJ => ?_) ?_
  · simp [-splice, f0, f1]
    exact hJ _ _ _ ⟨by simp [f0], by simp [f1], by simp [-splice, f0, f1]⟩
  clear f0 f1
  rintro t H n ⟨f0, f1, f7⟩
  obtain ⟨x1, hx1, h⟩ := bnd h
  refine Stk.cv (g := 109) (args := [.sc (.int .u8 a0)]) (args' := [.sc (.int .u8 a0)]) (v := .sc (.bool x1)) [] (ok_cmp_isNaN_uint8 F _ _ hx1) (by simp [f0, f1, f7]) rfl rfl (by simp [f0, f1, f7]) (.cons (.free (rfl)) (.nil)) (.inl ⟨rfl, rfl⟩) (fun t' ht' => ?_)
  refine Stk.gen (fun t H n => t 0 = .sc (.int .u8 a0) ∧ t 1 = .sc (.int .u8 a1) ∧ t 8 = .sc (.bool x1)) ⟨by simp [ht', f0], by simp [ht', f1], by simp [ht']⟩ ?_
  clear f0 f1 f7 ht' t'
  rintro t H n ⟨f0, f1, f8⟩
  refine Stk.run 1 (fun t H n => t 0 = .sc (.int .u8 a0) ∧ t 1 = .sc (.int .u8 a1) ∧ t 5 = .sc (.bool x1)) (fun J hJ => ?_) ?_
  · simp [-splice, f0, f1, f8]
    exact hJ _ _ _ ⟨by simp [f0], by simp [f1], by simp [-splice, f0, f1, f8]⟩
  clear f0 f1 f8
  rintro t H n ⟨f0, f1, f5⟩
  refine Stk.on ?_
  refine Stk.sq ?_
  refine Stk.rg ?_
  refine Stk.run 1 (fun t H n => t 0 = .sc (.int .u8 a0) ∧ t 1 = .sc (.int .u8 a1) ∧ t 5 = .sc (.bool x1) ∧ t 9 = .sc (.int .u8 a1)) (fun J hJ => ?_) ?_
  · simp [-splice, f0, f1, f5]
    exact hJ _ _ _ ⟨by simp [f0], by simp [f1], by simp [f5], by simp [-splice, f0, f1, f5]⟩
  clear f0 f1 f5
  rintro t H n ⟨f0, f1, f5, f9⟩
  obtain ⟨x2, hx2, h⟩ := bnd h
  refine Stk.cv (g := 109) (args := [.sc (.int .u8 a1)]) (args' := [.sc (.int .u8 a1)]) (v := .sc (.bool x2)) [] (ok_cmp_isNaN_uint8 F _ _ hx2) (by simp [f0, f1, f5, f9]) rfl rfl (by simp [f0, f1, f5, f9]) (.cons (.free (rfl)) (.nil)) (.inl ⟨rfl, rfl⟩) (fun t' ht' => ?_)
  refine Stk.gen (fun t H n => t 0 = .sc (.int .u8 a0) ∧ t 1 = .sc (.int .u8 a1) ∧ t 5 = .sc (.bool x1) ∧ t 10 = .sc (.bool x2)) ⟨by simp [ht', f0], by simp [ht', f1], by simp [ht', f5], by simp [ht']⟩ ?_
  clear f0 f1 f5 f9 ht' t'
  rintro t H n ⟨f0, f1, f5, f10⟩
  refine Stk.run 1 (fun t H n => t 0 = .sc (.int .u8 a0) ∧ t 1 = .sc (.int .u8 a1) ∧ t 5 = .sc (.bool x1) ∧ t 6 = .sc (.bool x2)) (fun J hJ => ?_) ?_
  · simp [-splice, f0, f1, f5, f10]
    exact hJ _ _ _ ⟨by simp [f0], by simp [f1], by simp [f5], by simp [-splice, f0, f1, f5, f10]⟩
  clear f0 f1 f5 f10
  rintro t H n ⟨f0, f1, f5, f6⟩
  refine Stk.on ?_
  refine Stk.sq ?_
  refine Stk.sq ?_
  refine Stk.rg ?_
  refine Stk.run 1 (fun t H n => t 0 = .sc (.int .u8 a0) ∧ t 1 = .sc (.int .u8 a1) ∧ t 6 = .sc (.bool x2) ∧ t 11 = .sc (.bool x1)) (fun J hJ => ?_) ?_
  · simp [-splice, f0, f1, f5, f6]
    exact hJ _ _ _ ⟨by simp [f0], by simp [f1], by simp [f6], by simp [-splice, f0, f1, f5, f6]⟩
  clear f0 f1 f5 f6
  rintro t H n ⟨f0, f1, f6, f11⟩
  refine Stk.on ?_
  refine Stk.cond x1 (by exact f11) (fun hb3 => ?_) (fun hb3 => ?_)
  · have h := cT hb3 h
    refine Stk.sq ?_
    refine Stk.sq ?_
    refine Stk.rg ?_
    refine Stk.run 1 (fun t H n => t 12 = .sc (.bool x2)) (fun J hJ => ?_) ?_
    · simp [-splice, f0, f1, f6, f11]
      exact hJ _ _ _ (by simp [-splice, f0, f1, f6, f11])
    clear f0 f1 f6 f11
    rintro t H n f12
    refine Stk.on ?_
    refine Stk.cond x2 (by exact f12) (fun hb4 => ?_) (fun hb4 => ?_)
    · have h := cT hb4 h
      refine Stk.sq ?_
      refine Stk.rg ?_
      refine Stk.run 1 (fun t H n => t 4 = .sc (.int .i64 0)) (fun J hJ => ?_) ?_
      · simp [-splice, f12]
        exact hJ _ _ _ (by simp [-splice, f12])
      clear f12
      rintro t H n f4
      refine Stk.on ?_
      refine Stk.rt ?_
      have hq := Option.some.inj h; subst hq
      exact (hr _ _ _ (.sc (.int .i64 0)) ([]) (by simp [f4]) (.inr (.inr (.free (rfl))))).1
    · have h := cF hb4 h
      refine Stk.sk ?_
      refine Stk.sq ?_
      refine Stk.rg ?_
      refine Stk.run 1 (fun t H n => t 4 = .sc (.int .i64 (-1))) (fun J hJ => ?_) ?_
      · simp [-splice, f12]
        exact hJ _ _ _ (by simp [-splice, f12])
      clear f12
      rintro t H n f4
      refine Stk.on ?_
      refine Stk.rt ?_
      have hq := Option.some.inj h; subst hq
      exact (hr _ _ _ (.sc (.int .i64 (-1))) ([]) (by simp [f4]) (.inr (.inr (.free (rfl))))).1
  · have h := cF hb3 h
    refine Stk.sk ?_
    refine Stk.sq ?_
    refine Stk.sq ?_
    refine Stk.rg ?_
    refine Stk.run 1 (fun t H n => t 0 = .sc (.int .u8 a0) ∧ t 1 = .sc (.int .u8 a1) ∧ t 13 = .sc (.bool x2)) (fun J hJ => ?_) ?_
    · simp [-splice, f0, f1, f6, f11]
      exact hJ _ _ _ ⟨by simp [f0], by simp [f1], by simp [-splice, f0, f1, f6, f11]⟩
    clear f0 f1 f6 f11
    rintro t H n ⟨f0, f1, f13⟩
    refine Stk.on ?_
    refine Stk.cond x2 (by exact f13) (fun hb5 => ?_) (fun hb5 => ?_)
    · have h := cT hb5 h
      refine Stk.sq ?_
      refine Stk.rg ?_
      refine Stk.run 1 (fun t H n => t 4 = .sc (.int .i64 1)) (fun J hJ => ?_) ?_
      · simp [-splice, f0, f1, f13]
        exact hJ _ _ _ (by simp [-splice, f0, f1, f13])
      clear f0 f1 f13
      rintro t H n f4
      refine Stk.on ?_
      refine Stk.rt ?_
      have hq := Option.some.inj h; subst hq
      exact (hr _ _ _ (.sc (.int .i64 1)) ([]) (by simp [f4]) (.inr (.inr (.free (rfl))))).1
    · have h := cF hb5 h
      refine Stk.sk ?_
      refine Stk.sq ?_
      refine Stk.sq ?_
      refine Stk.rg ?_
      refine Stk.run 3 (fun t H n => t 0 = .sc (.int .u8 a0) ∧ t 1 = .sc (.int .u8 a1) ∧ t 16 = .sc (.bool (decide (a0 < a1)))) (fun J hJ => ?_) ?_
      · simp [-splice, f0, f1, f13]
        exact hJ _ _ _ ⟨by simp [f0], by simp [f1], by simp [-splice, f0, f1, f13]⟩
      clear f0 f1 f13
      rintro t H n ⟨f0, f1, f16⟩
      refine Stk.on ?_
      refine Stk.cond (decide (a0 < a1)) (by exact f16) (fun hb6 => ?_) (fun hb6 => ?_)
      · have h := cT hb6 h
        refine Stk.sq ?_
        refine Stk.rg ?_
        refine Stk.run 1 (fun t H n => t 4 = .sc (.int .i64 (-1))) (fun J hJ => ?_) ?_
        · simp [-splice, f0, f1, f16]
          exact hJ _ _ _ (by simp [-splice, f0, f1, f16])
        clear f0 f1 f16
        rintro t H n f4
        refine Stk.on ?_
        refine Stk.rt ?_
        have hq := Option.some.inj h; subst hq
        exact (hr _ _ _ (.sc (.int .i64 (-1))) ([]) (by simp [f4]) (.inr (.inr (.free (rfl))))).1
      · have h := cF hb6 h
        refine Stk.sk ?_
        refine Stk.sq ?_
        refine Stk.sq ?_
        refine Stk.rg ?_
        refine Stk.run 3 (fun t H n => t 19 = .sc (.bool (decide (a1 < a0)))) (fun J hJ => ?_) ?_
        · simp [-splice, f0, f1, f16]
          exact hJ _ _ _ (by simp [-splice, f0, f1, f16])
        clear f0 f1 f16
        rintro t H n f19
        refine Stk.on ?_
        refine Stk.cond (decide (a1 < a0)) (by exact f19) (fun hb7 => ?_) (fun hb7 => ?_)
        · have h := cT hb7 h
          refine Stk.sq ?_
          refine Stk.rg ?_
          refine Stk.run 1 (fun t H n => t 4 = .sc (.int .i64 1)) (fun J hJ => ?_) ?_
          · simp [-splice, f19]
            exact hJ _ _ _ (by simp [-splice, f19])
          clear f19
          rintro t H n f4
          refine Stk.on ?_
          refine Stk.rt ?_
          have hq := Option.some.inj h; subst hq
          exact (hr _ _ _ (.sc (.int .i64 1)) ([]) (by simp [f4]) (.inr (.inr (.free (rfl))))).1
        · have h := cF hb7 h
          refine Stk.sk ?_
          refine Stk.sq ?_
          refine Stk.rg ?_
          refine Stk.run 1 (fun t H n => t 4 = .sc (.int .i64 0)) (fun J hJ => ?_) ?_
          · simp [-splice, f19]
            exact hJ _ _ _ (by simp [-splice, f19])
          clear f19
          rintro t H n f4
          refine Stk.on ?_
          refine Stk.rt ?_
          have hq := Option.some.inj h; subst hq
          exact (hr _ _ _ (.sc (.int .i64 0)) ([]) (by simp [f4]) (.inr (.inr (.free (rfl))))).1
theorem ok_slices_Compare_uint8_uint8 (F : Nat) (a0 : (List Int)) (a1 : (List Int)) (r : Int) (h : slices_Compare_uint8_uint8 F a0 a1 = some r) : RunF Try.prog T.T 91 [.ssl (encs c5 a0) a0.length false, .ssl (encs c5 a1) a1.length false] (.sc (.int .i64 r)) := by
  rw [slices_Compare_uint8_uint8] at h
  refine RunF.z Try.func91 rfl rfl rfl rfl rfl (fun C hr => ?_)
  refine Stk.gen (fun t H n => t 0 = .ssl (encs c5 a0) a0.length false ∧ t 1 = .ssl (encs c5 a1) a1.length false) ⟨by simp, by simp⟩ ?_
  rintro t H n ⟨f0, f1⟩
  refine Stk.sq ?_
  refine Stk.rg ?_
  refine Stk.run 1 (fun t H n => t 0 = .ssl (encs c5 a0) a0.length false ∧ t 1 = .ssl (encs c5 a1) a1.length false) (fun J hJ => ?_) ?_
  · simp [-splice, f0, f1]
    exact hJ _ _ _ ⟨by simp [f0], by simp [f1]⟩
  clear f0 f1
  rintro t H n ⟨f0, f1⟩
  refine Stk.on ?_
  refine Stk.sq ?_
  refine Stk.sq ?_
  refine Stk.rg ?_
  refine Stk.run 3 (fun t H n => t 0 = .ssl (encs c5 a0) a0.length false ∧ t 1 = .ssl (encs c5 a1) a1.length false ∧ t 9 = .ssl (encs c5 a0) a0.length false ∧ t 10 = .sc (.int .i64 (a0.length : Int)) ∧ t 11 = .sc (.int .i64 0)) (fun J hJ => ?_) ?_
  · simp [-splice, f0, f1]
    exact hJ _ _ _ ⟨by simp [f0], by simp [f1], by simp [-splice, f0, f1], by simp [-splice, f0, f1], by simp [-splice, f0, f1]⟩
  clear f0 f1
  rintro t H n ⟨f0, f1, f9, f10, f11⟩
  refine Stk.on ?_
  obtain ⟨K1, hK1, h⟩ := jnd h
  refine Stk.jn (fun t H n => K1 () = some r ∧ t 0 = .ssl (encs c5 a0) a0.length false ∧ t 1 = .ssl (encs c5 a1) a1.length false) trivial (fun J1 hJ1 => ?_) ?_
  · skip
    refine Stk.bk ?_
    refine Stk.lo (fun μ t H n => ∃ v1 : Int, slices_Compare_uint8_uint8_L0 F a0 a1 K1 μ v1 = some r ∧ t 0 = .ssl (encs c5 a0) a0.length false ∧ t 1 = .ssl (encs c5 a1) a1.length false ∧ t 9 = .ssl (encs c5 a0) a0.length false ∧ t 10 = .sc (.int .i64 (a0.length : Int)) ∧ t 11 = .sc (.int .i64 v1)) F ⟨0, h, f0, f1, f9, f10, f11⟩ ?_
    clear h f0 f1 f9 f10 f11
    rintro J2 hJ2 μ t H n ⟨v1, h, f0, f1, f9, f10, f11⟩
    cases μ with
    | zero => exact absurd h (by simp [slices_Compare_uint8_uint8_L0])
    | succ μ =>
    rw [slices_Compare_uint8_uint8_L0] at h
    refine Stk.sq ?_
    refine Stk.rg ?_
    refine Stk.run 1 (fun t H n => t 0 = .ssl (encs c5 a0) a0.length false ∧ t 1 = .ssl (encs c5 a1) a1.length false ∧ t 9 = .ssl (encs c5 a0) a0.length false ∧ t 10 = .sc (.int .i64 (a0.length : Int)) ∧ t 11 = .sc (.int .i64 v1) ∧ t 12 = .sc (.bool (decide (v1 < (a0.length : Int))))) (fun J hJ => ?_) ?_
    · simp [-splice, f0, f1, f9, f10, f11]
      exact hJ _ _ _ ⟨by simp [f0], by simp [f1], by simp [f9], by simp [f10], by simp [f11], by simp [-splice, f0, f1, f9, f10, f11]⟩
    clear f0 f1 f9 f10 f11
    rintro t H n ⟨f0, f1, f9, f10, f11, f12⟩
    refine Stk.on ?_
    refine Stk.sq ?_
    refine Stk.cond (decide (v1 < (a0.length : Int))) (by exact f12) (fun hb3 => ?_) (fun hb3 => ?_)
    · have h := cT hb3 h
      refine Stk.sk ?_
      refine Stk.sq ?_
      refine Stk.bk ?_
      refine Stk.sq ?_
      refine Stk.rg ?_
      obtain ⟨x4, hx4, h⟩ := bnd h
      obtain ⟨i0x4, i1x4, i2x4, _⟩ := idx_ok hx4
      have ex4_0_5 : partOf T.T 5 (encs c5 a0) (v1.toNat) = some (.sc (.int .u8 x4)) := by
          have e0 := part_elem0 (e := c5) (z := 1) (T := T.T) (ty := 5) T.t5 (by decide) (by decide) hx4 0 (by decide)
          (try simp only [Nat.mul_one, Nat.add_zero] at e0)
          exact e0.trans rfl
      refine Stk.run 5 (fun t H n => t 0 = .ssl (encs c5 a0) a0.length false ∧ t 1 = .ssl (encs c5 a1) a1.length false ∧ t 5 = .sc (.int .i64 v1) ∧ t 6 = .sc (.int .u8 x4) ∧ t 9 = .ssl (encs c5 a0) a0.length false ∧ t 10 = .sc (.int .i64 (a0.length : Int)) ∧ t 11 = .sc (.int .i64 v1)) (fun J hJ => ?_) ?_
      · simp [-splice, f0, f1, f9, f10, f11, f12, i0x4, i1x4, pd5, ex4_0_5]
        exact hJ _ _ _ ⟨by simp [f0], by simp [f1], by simp [-splice, f0, f1, f9, f10, f11, f12, i0x4, i1x4, pd5, ex4_0_5], by simp [-splice, f0, f1, f9, f10, f11, f12, i0x4, i1x4, pd5, ex4_0_5], by simp [f9], by simp [f10], by simp [f11]⟩
      clear f0 f1 f9 f10 f11 f12
      rintro t H n ⟨f0, f1, f5, f6, f9, f10, f11⟩
      refine Stk.on ?_
      refine Stk.sq ?_
      refine Stk.sq ?_
      refine Stk.rg ?_
      refine Stk.run 4 (fun t H n => t 0 = .ssl (encs c5 a0) a0.length false ∧ t 1 = .ssl (encs c5 a1) a1.length false ∧ t 5 = .sc (.int .i64 v1) ∧ t 6 = .sc (.int .u8 x4) ∧ t 9 = .ssl (encs c5 a0) a0.length false ∧ t 10 = .sc (.int .i64 (a0.length : Int)) ∧ t 11 = .sc (.int .i64 v1) ∧ t 19 = .sc (.bool (decide ((a1.length : Int) ≤ v1)))) (fun J hJ => ?_) ?_
      · simp [-splice, f0, f1, f5, f6, f9, f10, f11]
        exact hJ _ _ _ ⟨by simp [f0], by simp [f1], by simp [f5], by simp [f6], by simp [f9], by simp [f10], by simp [f11], by simp [-splice, f0, f1, f5, f6, f9, f10, f11]⟩
      clear f0 f1 f5 f6 f9 f10 f11
      rintro t H n ⟨f0, f1, f5, f6, f9, f10, f11, f19⟩
      refine Stk.on ?_
      refine Stk.cond (decide ((a1.length : Int) ≤ v1)) (by exact f19) (fun hb5 => ?_) (fun hb5 => ?_)
      · have h := cT hb5 h
        refine Stk.sq ?_
        refine Stk.rg ?_
        refine Stk.run 1 (fun t H n => t 4 = .sc (.int .i64 1)) (fun J hJ => ?_) ?_
        · simp [-splice, f0, f1, f5, f6, f9, f10, f11, f19]
          exact hJ _ _ _ (by simp [-splice, f0, f1, f5, f6, f9, f10, f11, f19])
        clear f0 f1 f5 f6 f9 f10 f11 f19
        rintro t H n f4
        refine Stk.on ?_
        refine Stk.rt ?_
        have hq := Option.some.inj h; subst hq
        exact (hr _ _ _ (.sc (.int .i64 1)) ([]) (by simp [f4]) (.inr (.inr (.free (rfl))))).1
      · have h := cF hb5 h
        refine Stk.sk ?_
        refine Stk.sq ?_
        refine Stk.rg ?_
        obtain ⟨x6, hx6, h⟩ := bnd h
        obtain ⟨i0x6, i1x6, i2x6, _⟩ := idx_ok hx6
        have ex6_0_5 : partOf T.T 5 (encs c5 a1) (v1.toNat) = some (.sc (.int .u8 x6)) := by
            have e0 := part_elem0 (e := c5) (z := 1) (T := T.T) (ty := 5) T.t5 (by decide) (by decide) hx6 0 (by decide)
            (try simp only [Nat.mul_one, Nat.add_zero] at e0)
            exact e0.trans rfl
        refine Stk.run 5 (fun t H n => t 0 = .ssl (encs c5 a0) a0.length false ∧ t 1 = .ssl (encs c5 a1) a1.length false ∧ t 6 = .sc (.int .u8 x4) ∧ t 7 = .sc (.int .u8 x6) ∧ t 9 = .ssl (encs c5 a0) a0.length false ∧ t 10 = .sc (.int .i64 (a0.length : Int)) ∧ t 11 = .sc (.int .i64 v1)) (fun J hJ => ?_) ?_
        · simp [-splice, f0, f1, f5, f6, f9, f10, f11, f19, i0x6, i1x6, pd5, ex6_0_5]
          exact hJ _ _ _ ⟨by simp [f0], by simp [f1], by simp [f6], by simp [-splice, f0, f1, f5, f6, f9, f10, f11, f19, i0x6, i1x6, pd5, ex6_0_5], by simp [f9], by simp [f10], by simp [f11]⟩
        clear f0 f1 f5 f6 f9 f10 f11 f19
        rintro t H n ⟨f0, f1, f6, f7, f9, f10, f11⟩
        refine Stk.on ?_
        refine Stk.sq ?_
        refine Stk.rg ?_
        refine Stk.run 2 (fun t H n => t 0 = .ssl (encs c5 a0) a0.length false ∧ t 1 = .ssl (encs c5 a1) a1.length false ∧ t 9 = .ssl (encs c5 a0) a0.length false ∧ t 10 = .sc (.int .i64 (a0.length : Int)) ∧ t 11 = .sc (.int .i64 v1) ∧ t 24 = .sc (.int .u8 x4) ∧ t 25 = .sc (.int .u8 x6)) (fun J hJ => ?_) ?_
        · simp [-splice, f0, f1, f6, f7, f9, f10, f11]
          exact hJ _ _ _ ⟨by simp [f0], by simp [f1], by simp [f9], by simp [f10], by simp [f11], by simp [-splice, f0, f1, f6, f7, f9, f10, f11], by simp [-splice, f0, f1, f6, f7, f9, f10, f11]⟩
        clear f0 f1 f6 f7 f9 f10 f11
        rintro t H n ⟨f0, f1, f9, f10, f11, f24, f25⟩
        obtain ⟨x7, hx7, h⟩ := bnd h
        refine Stk.cv (g := 102) (args := [.sc (.int .u8 x4), .sc (.int .u8 x6)]) (args' := [.sc (.int .u8 x4), .sc (.int .u8 x6)]) (v := .sc (.int .i64 x7)) [] (ok_cmp_Compare_uint8 F _ _ _ hx7) (by simp [f0, f1, f9, f10, f11, f24, f25]) rfl rfl (by simp [f0, f1, f9, f10, f11, f24, f25]) (.cons (.free (rfl)) (.cons (.free (rfl)) (.nil))) (.inl ⟨rfl, rfl⟩) (fun t' ht' => ?_)
        refine Stk.gen (fun t H n => t 0 = .ssl (encs c5 a0) a0.length false ∧ t 1 = .ssl (encs c5 a1) a1.length false ∧ t 9 = .ssl (encs c5 a0) a0.length false ∧ t 10 = .sc (.int .i64 (a0.length : Int)) ∧ t 11 = .sc (.int .i64 v1) ∧ t 26 = .sc (.int .i64 x7)) ⟨by simp [ht', f0], by simp [ht', f1], by simp [ht', f9], by simp [ht', f10], by simp [ht', f11], by simp [ht']⟩ ?_
        clear f0 f1 f9 f10 f11 f24 f25 ht' t'
        rintro t H n ⟨f0, f1, f9, f10, f11, f26⟩
        refine Stk.run 1 (fun t H n => t 0 = .ssl (encs c5 a0) a0.length false ∧ t 1 = .ssl (encs c5 a1) a1.length false ∧ t 8 = .sc (.int .i64 x7) ∧ t 9 = .ssl (encs c5 a0) a0.length false ∧ t 10 = .sc (.int .i64 (a0.length : Int)) ∧ t 11 = .sc (.int .i64 v1)) (fun J hJ => ?_) ?_
        · simp [-splice, f0, f1, f9, f10, f11, f26]
          exact hJ _ _ _ ⟨by simp [f0], by simp [f1], by simp [-splice, f0, f1, f9, f10, f11, f26], by simp [f9], by simp [f10], by simp [f11]⟩
        clear f0 f1 f9 f10 f11 f26
        rintro t H n ⟨f0, f1, f8, f9, f10, f11⟩
        refine Stk.on ?_
        refine Stk.sq ?_
        refine Stk.rg ?_
        refine Stk.run 2 (fun t H n => t 0 = .ssl (encs c5 a0) a0.length false ∧ t 1 = .ssl (encs c5 a1) a1.length false ∧ t 8 = .sc (.int .i64 x7) ∧ t 9 = .ssl (encs c5 a0) a0.length false ∧ t 10 = .sc (.int .i64 (a0.length : Int)) ∧ t 11 = .sc (.int .i64 v1) ∧ t 28 = .sc (.bool (x7 != 0))) (fun J hJ => ?_) ?_
        · simp [-splice, f0, f1, f8, f9, f10, f11]
          exact hJ _ _ _ ⟨by simp [f0], by simp [f1], by simp [f8], by simp [f9], by simp [f10], by simp [f11], by simp [-splice, f0, f1, f8, f9, f10, f11]⟩
        clear f0 f1 f8 f9 f10 f11
        rintro t H n ⟨f0, f1, f8, f9, f10, f11, f28⟩
        refine Stk.on ?_
        refine Stk.cond (x7 != 0) (by exact f28) (fun hb8 => ?_) (fun hb8 => ?_)
        · have h := cT hb8 h
          refine Stk.sq ?_
          refine Stk.rg ?_
          refine Stk.run 2 (fun t H n => t 4 = .sc (.int .i64 x7)) (fun J hJ => ?_) ?_
          · simp [-splice, f0, f1, f8, f9, f10, f11, f28]
            exact hJ _ _ _ (by simp [-splice, f0, f1, f8, f9, f10, f11, f28])
          clear f0 f1 f8 f9 f10 f11 f28
          rintro t H n f4
          refine Stk.on ?_
          refine Stk.rt ?_
          have hq := Option.some.inj h; subst hq
          exact (hr _ _ _ (.sc (.int .i64 x7)) ([]) (by simp [f4]) (.inr (.inr (.free (rfl))))).1
        · have h := cF hb8 h
          refine Stk.sk ?_
          refine Stk.bn ?_
          refine Stk.rg ?_
          refine Stk.run 2 (fun t H n => t 0 = .ssl (encs c5 a0) a0.length false ∧ t 1 = .ssl (encs c5 a1) a1.length false ∧ t 9 = .ssl (encs c5 a0) a0.length false ∧ t 10 = .sc (.int .i64 (a0.length : Int)) ∧ t 11 = .sc (.int .i64 (IntKind.i64.wrap (v1 + 1)))) (fun J hJ => ?_) ?_
          · simp [-splice, f0, f1, f8, f9, f10, f11, f28]
            exact hJ _ _ _ ⟨by simp [f0], by simp [f1], by simp [f9], by simp [f10], by simp [-splice, f0, f1, f8, f9, f10, f11, f28]⟩
          clear f0 f1 f8 f9 f10 f11 f28
          rintro t H n ⟨f0, f1, f9, f10, f11⟩
          refine Stk.on ?_
          exact Stk.ln μ (Nat.lt_succ_self _) (hJ2 _ _ _ _ ⟨(IntKind.i64.wrap (v1 + 1)), h, f0, f1, f9, f10, f11⟩)
    · have h := cF hb3 h
      refine Stk.ex rfl ?_
      exact Stk.ln 0 (by decide) (hJ1 _ _ _ ⟨h, f0, f1⟩)
  clear h f0 f1 f9 f10 f11
  rintro t H n ⟨h, f0, f1⟩
  subst hK1
  refine Stk.sq ?_
  refine Stk.sq ?_
  refine Stk.rg ?_
  refine Stk.run 5 (fun t H n => t 35 = .sc (.bool (decide ((a0.length : Int) < (a1.length : Int))))) (fun J hJ => ?_) ?_
  · simp [-splice, f0, f1]
    exact hJ _ _ _ (by simp [-splice, f0, f1])
  clear f0 f1
  rintro t H n f35
  refine Stk.on ?_
  refine Stk.cond (decide ((a0.length : Int) < (a1.length : Int))) (by exact f35) (fun hb9 => ?_) (fun hb9 => ?_)
  · have h := cT hb9 h
    refine Stk.sq ?_
    refine Stk.rg ?_
    refine Stk.run 1 (fun t H n => t 4 = .sc (.int .i64 (-1))) (fun J hJ => ?_) ?_
    · simp [-splice, f35]
      exact hJ _ _ _ (by simp [-splice, f35])
    clear f35
    rintro t H n f4
    refine Stk.on ?_
    refine Stk.rt ?_
    have hq := Option.some.inj h; subst hq
    exact (hr _ _ _ (.sc (.int .i64 (-1))) ([]) (by simp [f4]) (.inr (.inr (.free (rfl))))).1
  · have h := cF hb9 h
    refine Stk.sk ?_
    refine Stk.sq ?_
    refine Stk.rg ?_
    refine Stk.run 1 (fun t H n => t 4 = .sc (.int .i64 0)) (fun J hJ => ?_) ?_
    · simp [-splice, f35]
      exact hJ _ _ _ (by simp [-splice, f35])
    clear f35
    rintro t H n f4
    refine Stk.on ?_
    refine Stk.rt ?_
    have hq := Option.some.inj h; subst hq
    exact (hr _ _ _ (.sc (.int .i64 0)) ([]) (by simp [f4]) (.inr (.inr (.free (rfl))))).1
end Go.Proofs.Ytfbkgjmpadknfaa.M
