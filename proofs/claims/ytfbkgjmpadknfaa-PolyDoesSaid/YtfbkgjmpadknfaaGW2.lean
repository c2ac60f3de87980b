/-
  The functions come to them.
-/
import Derived.Test.YtfbkgjmpadknfaaGM
import Derived.Test.YtfbkgjmpadknfaaGW1
namespace Go.Proofs.Ytfbkgjmpadknfaa.M
open Go.Proofs.YtfbkgjmpadknfaaW.Ah Go.Proofs.Ytfbkgjmpadknfaa
set_option linter.unusedVariables false
set_option linter.unusedSimpArgs false
set_option maxRecDepth 8000
attribute [local simp] T.t2 T.t3 T.t4 T.t5 T.t23 T.t37 T.t45 T.t95 T.t97 List.range List.range.loop
attribute [-simp] appendAV fillAV
theorem ok_poly_scaled (F : Nat) (a0 : (List api_Term)) (a1 : api_Term) (r : ((List api_Term) × Bool)) (h : poly_scaled F a0 a1 = some r) : RunF Try.prog T.T 65 [.ssl (encs c97 a0) a0.length false, .agg (c97 a1)] (.tup [.ssl (encs c97 r.1) r.1.length false, .sc (.bool r.2)]) := by
  rw [poly_scaled] at h
  refine RunF.z Try.func65 rfl rfl rfl rfl rfl (fun C hr => ?_)
  refine Stk.gen (fun t H n => t 0 = .ssl (encs c97 a0) a0.length false ∧ t 1 = .agg (c97 a1)) ⟨by simp, by simp⟩ ?_
  rintro t H n ⟨f0, f1⟩
  refine Stk.sq ?_
  refine Stk.rg ?_
  refine Stk.om (mop_box T.t97 (cs := c97 a1) (by show partOk (t 1) = true; rw [f1]; rfl) (by show cellsOf (t 1) = _; rw [f1]; rfl)) (by simp [f0, f1]) rfl (fun t' ht' => ?_)
  refine Stk.gen (fun t H n => ∃ b1, t 0 = .ssl (encs c97 a0) a0.length false ∧ t 3 = .own b1 0 ∧ H b1 = some (.cells (c97 a1) 97) ∧ b1 < n) ⟨n, by simp [ht', f0], by simp [ht'], upd_same _ _ _, Nat.lt_succ_self _⟩ ?_
  clear f0 f1 ht' t'
  rintro t H n ⟨b1, f0, f3, b_b1, l_b1⟩
  refine Stk.run 1 (fun t H n => t 0 = .ssl (encs c97 a0) a0.length false ∧ t 3 = .own b1 0 ∧ H b1 = some (.cells (c97 a1) 97) ∧ b1 < n) (fun J hJ => ?_) ?_
  · simp [-splice, f0, f3, b_b1]
    exact hJ _ _ _ ⟨by simp [f0], by simp [f3], b_b1, l_b1⟩
  clear f0 f3 b_b1 l_b1
  rintro t H n ⟨f0, f3, b_b1, l_b1⟩
  refine Stk.run 1 (fun t H n => t 0 = .ssl (encs c97 a0) a0.length false ∧ t 3 = .own b1 0 ∧ H b1 = some (.cells (c97 a1) 97) ∧ b1 < n) (fun J hJ => ?_) ?_
  · simp [-splice, f0, f3, b_b1]
    exact hJ _ _ _ ⟨by simp [f0], by simp [f3], b_b1, l_b1⟩
  clear f0 f3 b_b1 l_b1
  rintro t H n ⟨f0, f3, b_b1, l_b1⟩
  refine Stk.on ?_
  refine Stk.sq ?_
  refine Stk.rg ?_
  refine Stk.run 2 (fun t H n => t 0 = .ssl (encs c97 a0) a0.length false ∧ t 3 = .own b1 0 ∧ t 11 = .sc (.int .i64 (a0.length : Int)) ∧ H b1 = some (.cells (c97 a1) 97) ∧ b1 < n) (fun J hJ => ?_) ?_
  · simp [-splice, f0, f3, b_b1]
    exact hJ _ _ _ ⟨by simp [f0], by simp [f3], by simp [-splice, f0, f3, b_b1], b_b1, l_b1⟩
  clear f0 f3 b_b1 l_b1
  rintro t H n ⟨f0, f3, f11, b_b1, l_b1⟩
  obtain ⟨x2, hx2, h⟩ := bnd h
  obtain ⟨m1x2, m2x2, m3x2, m4x2⟩ := makM_ok hx2
  refine Stk.om (mop_make (c := c97) (z := 13) T.t37 rfl T.t97 rfl (by decide) rfl (api_Term.mk (Arr.rep 12 0) 0) f11 rfl m1x2 m2x2 m3x2) (by simp [f0, f3, f11]) rfl (fun t' ht' => ?_)
  refine Stk.gen (fun t H n => ∃ b3, t 0 = .ssl (encs c97 a0) a0.length false ∧ t 3 = .own b1 0 ∧ t 12 = .osl b3 0 x2.length (some x2.length) ∧ H b1 = some (.cells (c97 a1) 97) ∧ b1 < n ∧ H b3 = some (.cells (encs c97 x2) 97) ∧ b3 < n ∧ b1 ≠ b3) ⟨n, by simp [ht', f0], by simp [ht', f3], by rw [← m4x2, List.length_replicate]; simp [ht'], (upd_ne _ _ (Nat.ne_of_lt l_b1)).trans b_b1, Nat.lt_succ_of_lt l_b1, by rw [← m4x2]; exact upd_same _ _ _, Nat.lt_succ_self _, Nat.ne_of_lt l_b1⟩ ?_
  clear f0 f3 f11 b_b1 l_b1 ht' t'
  rintro t H n ⟨b3, f0, f3, f12, b_b1, l_b1, b_b3, l_b3, d_b1_b3⟩
  refine Stk.run 1 (fun t H n => t 0 = .ssl (encs c97 a0) a0.length false ∧ t 3 = .own b1 0 ∧ t 6 = .osl b3 0 x2.length (some x2.length) ∧ H b1 = some (.cells (c97 a1) 97) ∧ b1 < n ∧ H b3 = some (.cells (encs c97 x2) 97) ∧ b3 < n ∧ b1 ≠ b3) (fun J hJ => ?_) ?_
  · simp [-splice, f0, f3, f12, b_b1, b_b3]
    exact hJ _ _ _ ⟨by simp [f0], by simp [f3], by simp [-splice, f0, f3, f12, b_b1, b_b3], b_b1, l_b1, b_b3, l_b3, d_b1_b3⟩
  clear f0 f3 f12 b_b1 l_b1 b_b3 l_b3 d_b1_b3
  rintro t H n ⟨f0, f3, f6, b_b1, l_b1, b_b3, l_b3, d_b1_b3⟩
  refine Stk.on ?_
  refine Stk.sq ?_
  refine Stk.sq ?_
  refine Stk.rg ?_
  refine Stk.run 3 (fun t H n => t 3 = .own b1 0 ∧ t 6 = .osl b3 0 x2.length (some x2.length) ∧ t 13 = .ssl (encs c97 a0) a0.length false ∧ t 14 = .sc (.int .i64 (a0.length : Int)) ∧ t 15 = .sc (.int .i64 0) ∧ H b1 = some (.cells (c97 a1) 97) ∧ b1 < n ∧ H b3 = some (.cells (encs c97 x2) 97) ∧ b3 < n ∧ b1 ≠ b3) (fun J hJ => ?_) ?_
  · simp [-splice, f0, f3, f6, b_b1, b_b3]
    exact hJ _ _ _ ⟨by simp [f3], by simp [f6], by simp [-splice, f0, f3, f6, b_b1, b_b3], by simp [-splice, f0, f3, f6, b_b1, b_b3], by simp [-splice, f0, f3, f6, b_b1, b_b3], b_b1, l_b1, b_b3, l_b3, d_b1_b3⟩
  clear f0 f3 f6 b_b1 l_b1 b_b3 l_b3 d_b1_b3
  rintro t H n ⟨f3, f6, f13, f14, f15, b_b1, l_b1, b_b3, l_b3, d_b1_b3⟩
  refine Stk.on ?_
  obtain ⟨K1, hK1, h⟩ := jnd h
  refine Stk.jn (fun t H n => ∃ v4 : List api_Term, K1 v4 = some r ∧ t 6 = .osl b3 0 v4.length (some v4.length) ∧ H b3 = some (.cells (encs c97 v4) 97) ∧ b3 < n) trivial (fun J1 hJ1 => ?_) ?_
  · skip
    refine Stk.bk ?_
    refine Stk.lo (fun μ t H n => ∃ v5 : Int, ∃ v6 : List api_Term, poly_scaled_L0 F a0 a1 K1 μ v5 v6 = some r ∧ t 3 = .own b1 0 ∧ t 6 = .osl b3 0 v6.length (some v6.length) ∧ t 13 = .ssl (encs c97 a0) a0.length false ∧ t 14 = .sc (.int .i64 (a0.length : Int)) ∧ t 15 = .sc (.int .i64 v5) ∧ H b1 = some (.cells (c97 a1) 97) ∧ b1 < n ∧ H b3 = some (.cells (encs c97 v6) 97) ∧ b3 < n ∧ b1 ≠ b3) F ⟨0, x2, h, f3, f6, f13, f14, f15, b_b1, l_b1, b_b3, l_b3, d_b1_b3⟩ ?_
    clear h f3 f6 f13 f14 f15 b_b1 l_b1 b_b3 l_b3 d_b1_b3
    rintro J2 hJ2 μ t H n ⟨v5, v6, h, f3, f6, f13, f14, f15, b_b1, l_b1, b_b3, l_b3, d_b1_b3⟩
    cases μ with
    | zero => exact absurd h (by simp [poly_scaled_L0])
    | succ μ =>
    rw [poly_scaled_L0] at h
    refine Stk.sq ?_
    refine Stk.rg ?_
    refine Stk.run 1 (fun t H n => t 3 = .own b1 0 ∧ t 6 = .osl b3 0 v6.length (some v6.length) ∧ t 13 = .ssl (encs c97 a0) a0.length false ∧ t 14 = .sc (.int .i64 (a0.length : Int)) ∧ t 15 = .sc (.int .i64 v5) ∧ t 16 = .sc (.bool (decide (v5 < (a0.length : Int)))) ∧ H b1 = some (.cells (c97 a1) 97) ∧ b1 < n ∧ H b3 = some (.cells (encs c97 v6) 97) ∧ b3 < n ∧ b1 ≠ b3) (fun J hJ => ?_) ?_
    · simp [-splice, f3, f6, f13, f14, f15, b_b1, b_b3]
      exact hJ _ _ _ ⟨by simp [f3], by simp [f6], by simp [f13], by simp [f14], by simp [f15], by simp [-splice, f3, f6, f13, f14, f15, b_b1, b_b3], b_b1, l_b1, b_b3, l_b3, d_b1_b3⟩
    clear f3 f6 f13 f14 f15 b_b1 l_b1 b_b3 l_b3 d_b1_b3
    rintro t H n ⟨f3, f6, f13, f14, f15, f16, b_b1, l_b1, b_b3, l_b3, d_b1_b3⟩
    refine Stk.on ?_
    refine Stk.sq ?_
    refine Stk.cond (decide (v5 < (a0.length : Int))) (by exact f16) (fun hb9 => ?_) (fun hb9 => ?_)
    · have h := cT hb9 h
      refine Stk.sk ?_
      refine Stk.sq ?_
      refine Stk.bk ?_
      refine Stk.sq ?_
      refine Stk.rg ?_
      obtain ⟨x10, hx10, h⟩ := bnd h
      obtain ⟨i0x10, i1x10, i2x10, _⟩ := idx_ok hx10
      have ex10_0_97 : partOf T.T 97 (encs c97 a0) (v5.toNat * 13) = some (.agg (c97 x10)) := by
          have e0 := part_elem0 (e := c97) (z := 13) (T := T.T) (ty := 97) T.t97 (by decide) (by decide) hx10 0 (by decide)
          (try simp only [Nat.mul_one, Nat.add_zero] at e0)
          exact e0.trans (ld_97_0_97 _)
      refine Stk.run 3 (fun t H n => t 3 = .own b1 0 ∧ t 6 = .osl b3 0 v6.length (some v6.length) ∧ t 13 = .ssl (encs c97 a0) a0.length false ∧ t 14 = .sc (.int .i64 (a0.length : Int)) ∧ t 15 = .sc (.int .i64 v5) ∧ t 17 = .sc (.int .i64 v5) ∧ t 19 = .agg (c97 x10) ∧ H b1 = some (.cells (c97 a1) 97) ∧ b1 < n ∧ H b3 = some (.cells (encs c97 v6) 97) ∧ b3 < n ∧ b1 ≠ b3) (fun J hJ => ?_) ?_
      · simp [-splice, f3, f6, f13, f14, f15, f16, b_b1, b_b3, i0x10, i1x10, pd97, ex10_0_97]
        exact hJ _ _ _ ⟨by simp [f3], by simp [f6], by simp [f13], by simp [f14], by simp [f15], by simp [-splice, f3, f6, f13, f14, f15, f16, b_b1, b_b3, i0x10, i1x10, pd97, ex10_0_97], by simp [-splice, f3, f6, f13, f14, f15, f16, b_b1, b_b3, i0x10, i1x10, pd97, ex10_0_97], b_b1, l_b1, b_b3, l_b3, d_b1_b3⟩
      clear f3 f6 f13 f14 f15 f16 b_b1 l_b1 b_b3 l_b3 d_b1_b3
      rintro t H n ⟨f3, f6, f13, f14, f15, f17, f19, b_b1, l_b1, b_b3, l_b3, d_b1_b3⟩
      refine Stk.om (mop_alloc T.t97 (cs := c97 (api_Term.mk (Arr.rep 12 0) 0)) rfl) (by simp [f3, f6, f13, f14, f15, f17, f19]) rfl (fun t' ht' => ?_)
      refine Stk.gen (fun t H n => ∃ b11, t 3 = .own b1 0 ∧ t 6 = .osl b3 0 v6.length (some v6.length) ∧ t 8 = .own b11 0 ∧ t 13 = .ssl (encs c97 a0) a0.length false ∧ t 14 = .sc (.int .i64 (a0.length : Int)) ∧ t 15 = .sc (.int .i64 v5) ∧ t 17 = .sc (.int .i64 v5) ∧ t 19 = .agg (c97 x10) ∧ H b1 = some (.cells (c97 a1) 97) ∧ b1 < n ∧ H b3 = some (.cells (encs c97 v6) 97) ∧ b3 < n ∧ H b11 = some (.cells (c97 (api_Term.mk (Arr.rep 12 0) 0)) 97) ∧ b11 < n ∧ b1 ≠ b3 ∧ b1 ≠ b11 ∧ b3 ≠ b11) ⟨n, by simp [ht', f3], by simp [ht', f6], by simp [ht'], by simp [ht', f13], by simp [ht', f14], by simp [ht', f15], by simp [ht', f17], by simp [ht', f19], (upd_ne _ _ (Nat.ne_of_lt l_b1)).trans b_b1, Nat.lt_succ_of_lt l_b1, (upd_ne _ _ (Nat.ne_of_lt l_b3)).trans b_b3, Nat.lt_succ_of_lt l_b3, upd_same _ _ _, Nat.lt_succ_self _, d_b1_b3, Nat.ne_of_lt l_b1, Nat.ne_of_lt l_b3⟩ ?_
      clear f3 f6 f13 f14 f15 f17 f19 b_b1 l_b1 b_b3 l_b3 d_b1_b3 ht' t'
      rintro t H n ⟨b11, f3, f6, f8, f13, f14, f15, f17, f19, b_b1, l_b1, b_b3, l_b3, b_b11, l_b11, d_b1_b3, d_b1_b11, d_b3_b11⟩
      refine Stk.run 1 (fun t H n => t 3 = .own b1 0 ∧ t 6 = .osl b3 0 v6.length (some v6.length) ∧ t 7 = .sc (.int .i64 v5) ∧ t 8 = .own b11 0 ∧ t 13 = .ssl (encs c97 a0) a0.length false ∧ t 14 = .sc (.int .i64 (a0.length : Int)) ∧ t 15 = .sc (.int .i64 v5) ∧ t 19 = .agg (c97 x10) ∧ H b1 = some (.cells (c97 a1) 97) ∧ b1 < n ∧ H b3 = some (.cells (encs c97 v6) 97) ∧ b3 < n ∧ H b11 = some (.cells (c97 (api_Term.mk (Arr.rep 12 0) 0)) 97) ∧ b11 < n ∧ b1 ≠ b3 ∧ b1 ≠ b11 ∧ b3 ≠ b11) (fun J hJ => ?_) ?_
      · simp [-splice, f3, f6, f8, f13, f14, f15, f17, f19, b_b1, b_b3, b_b11]
        exact hJ _ _ _ ⟨by simp [f3], by simp [f6], by simp [-splice, f3, f6, f8, f13, f14, f15, f17, f19, b_b1, b_b3, b_b11], by simp [f8], by simp [f13], by simp [f14], by simp [f15], by simp [f19], b_b1, l_b1, b_b3, l_b3, b_b11, l_b11, d_b1_b3, d_b1_b11, d_b3_b11⟩
      clear f3 f6 f8 f13 f14 f15 f17 f19 b_b1 l_b1 b_b3 l_b3 b_b11 l_b11 d_b1_b3 d_b1_b11 d_b3_b11
      rintro t H n ⟨f3, f6, f7, f8, f13, f14, f15, f19, b_b1, l_b1, b_b3, l_b3, b_b11, l_b11, d_b1_b3, d_b1_b11, d_b3_b11⟩
      refine Stk.om (mop_store (z := 13) rfl f8 b_b11 f19 (len97 _) (by rw [len97]; decide) (ok97 _) (st_97_0_97 _ _)) (by simp [f3, f6, f7, f8, f13, f14, f15, f19]) rfl (fun t' ht' => ?_)
      refine Stk.gen (fun t H n => t 3 = .own b1 0 ∧ t 6 = .osl b3 0 v6.length (some v6.length) ∧ t 7 = .sc (.int .i64 v5) ∧ t 8 = .own b11 0 ∧ t 13 = .ssl (encs c97 a0) a0.length false ∧ t 14 = .sc (.int .i64 (a0.length : Int)) ∧ t 15 = .sc (.int .i64 v5) ∧ H b1 = some (.cells (c97 a1) 97) ∧ b1 < n ∧ H b3 = some (.cells (encs c97 v6) 97) ∧ b3 < n ∧ H b11 = some (.cells (c97 x10) 97) ∧ b11 < n ∧ b1 ≠ b3 ∧ b1 ≠ b11 ∧ b3 ≠ b11) ⟨by simp [ht', f3], by simp [ht', f6], by simp [ht', f7], by simp [ht', f8], by simp [ht', f13], by simp [ht', f14], by simp [ht', f15], (upd_ne _ _ d_b1_b11).trans b_b1, l_b1, (upd_ne _ _ d_b3_b11).trans b_b3, l_b3, upd_same _ _ _, l_b11, d_b1_b3, d_b1_b11, d_b3_b11⟩ ?_
      clear f3 f6 f7 f8 f13 f14 f15 f19 b_b1 l_b1 b_b3 l_b3 b_b11 l_b11 d_b1_b3 d_b1_b11 d_b3_b11 ht' t'
      rintro t H n ⟨f3, f6, f7, f8, f13, f14, f15, b_b1, l_b1, b_b3, l_b3, b_b11, l_b11, d_b1_b3, d_b1_b11, d_b3_b11⟩
      refine Stk.on ?_
      refine Stk.sq ?_
      refine Stk.sq ?_
      obtain ⟨n0, hn0⟩ : ∃ m, m = n := ⟨n, rfl⟩
      have ln0 : n0 ≤ n := Nat.le_of_eq hn0
      refine Stk.rgD [.rd [], .rd [b11], .rd [], .rd [b1], .rd [], .rd []] none (by kernel_rfl) (by rfl) rfl (by simp [below, hn0, l_b1, hn0, l_b3, hn0, l_b11]) rfl ?_
      obtain ⟨x12, hx12, h⟩ := bnd h
      obtain ⟨nx12, ex12⟩ := quoM_ok hx12
      refine Stk.runD 6 (fun t H n => t 3 = .own b1 0 ∧ t 6 = .osl b3 0 v6.length (some v6.length) ∧ t 7 = .sc (.int .i64 v5) ∧ t 8 = .own b11 0 ∧ t 13 = .ssl (encs c97 a0) a0.length false ∧ t 14 = .sc (.int .i64 (a0.length : Int)) ∧ t 15 = .sc (.int .i64 v5) ∧ t 25 = .sc (.bool (decide (x12 < x10.Coef))) ∧ H b1 = some (.cells (c97 a1) 97) ∧ b1 < n ∧ H b3 = some (.cells (encs c97 v6) 97) ∧ b3 < n ∧ H b11 = some (.cells (c97 x10) 97) ∧ b11 < n ∧ b1 ≠ b3 ∧ b1 ≠ b11 ∧ b3 ≠ b11 ∧ n0 ≤ n) (fun J hJ => ?_) ?_
      · simp [-splice, f3, f6, f7, f8, f13, f14, f15, b_b1, b_b3, b_b11, ld_97_12_2, nx12, ex12]
        exact hJ _ _ _ ⟨by simp [f3], by simp [f6], by simp [f7], by simp [f8], by simp [f13], by simp [f14], by simp [f15], by simp [-splice, f3, f6, f7, f8, f13, f14, f15, b_b1, b_b3, b_b11, ld_97_12_2, nx12, ex12], b_b1, l_b1, b_b3, l_b3, b_b11, l_b11, d_b1_b3, d_b1_b11, d_b3_b11, ln0⟩
      clear f3 f6 f7 f8 f13 f14 f15 b_b1 l_b1 b_b3 l_b3 b_b11 l_b11 d_b1_b3 d_b1_b11 d_b3_b11 ln0
      rintro t H n ⟨f3, f6, f7, f8, f13, f14, f15, f25, b_b1, l_b1, b_b3, l_b3, b_b11, l_b11, d_b1_b3, d_b1_b11, d_b3_b11, ln0⟩
      refine Stk.onD ?_
      refine Stk.cond (decide (x12 < x10.Coef)) (by exact f25) (fun hb13 => ?_) (fun hb13 => ?_)
      · have h := cT hb13 h
        refine Stk.sq ?_
        refine Stk.rg ?_
        refine Stk.run 1 (fun t H n => t 4 = .sc (.slice none 0 0)) (fun J hJ => ?_) ?_
        · simp [-splice, f3, f6, f7, f8, f13, f14, f15, f25, b_b1, b_b3, b_b11]
          exact hJ _ _ _ (by simp [-splice, f3, f6, f7, f8, f13, f14, f15, f25, b_b1, b_b3, b_b11])
        clear f3 f6 f7 f8 f13 f14 f15 f25 b_b1 l_b1 b_b3 l_b3 b_b11 l_b11 d_b1_b3 d_b1_b11 d_b3_b11 ln0
        rintro t H n f4
        refine Stk.wk trivial 4 (.ssl (encs c97 ([] : (List api_Term))) ([] : (List api_Term)).length false) (by rw [f4]; exact .inr (.inr .nilS)) (fun t' ht' => ?_)
        refine Stk.gen (fun t H n => t 4 = .ssl (encs c97 ([] : (List api_Term))) ([] : (List api_Term)).length false) (by simp [ht', f4]) ?_
        clear f4 ht' t'
        rintro t H n f4
        refine Stk.run 1 (fun t H n => t 4 = .ssl (encs c97 ([] : (List api_Term))) ([] : (List api_Term)).length false ∧ t 5 = .sc (.bool false)) (fun J hJ => ?_) ?_
        · simp [-splice, f4]
          exact hJ _ _ _ ⟨by simp [f4], by simp [-splice, f4]⟩
        clear f4
        rintro t H n ⟨f4, f5⟩
        refine Stk.on ?_
        refine Stk.rt ?_
        have hq := Option.some.inj h; subst hq
        exact (hr _ _ _ (.tup [.ssl (encs c97 ([] : (List api_Term))) ([] : (List api_Term)).length false, .sc (.bool false)]) ([]) (by simp [f4, f5]) (.inr (.inr (.tup (.cons (.free (freeL_encs fr97 _)) (.cons (.free (rfl)) (.nil))))))).1
      · have h := cF hb13 h
        refine Stk.sk ?_
        refine Stk.sq ?_
        refine Stk.rg ?_
        refine Stk.run 6 (fun t H n => t 3 = .own b1 0 ∧ t 6 = .osl b3 0 v6.length (some v6.length) ∧ t 7 = .sc (.int .i64 v5) ∧ t 8 = .own b11 0 ∧ t 13 = .ssl (encs c97 a0) a0.length false ∧ t 14 = .sc (.int .i64 (a0.length : Int)) ∧ t 15 = .sc (.int .i64 v5) ∧ t 30 = .sc (.int .i64 (IntKind.i64.wrap (x10.Coef * a1.Coef))) ∧ t 31 = .own b11 12 ∧ H b1 = some (.cells (c97 a1) 97) ∧ b1 < n ∧ H b3 = some (.cells (encs c97 v6) 97) ∧ b3 < n ∧ H b11 = some (.cells (c97 x10) 97) ∧ b11 < n ∧ b1 ≠ b3 ∧ b1 ≠ b11 ∧ b3 ≠ b11) (fun J hJ => ?_) ?_
        · simp [-splice, f3, f6, f7, f8, f13, f14, f15, f25, b_b1, b_b3, b_b11, ld_97_12_2]
          exact hJ _ _ _ ⟨by simp [f3], by simp [f6], by simp [f7], by simp [f8], by simp [f13], by simp [f14], by simp [f15], by simp [-splice, f3, f6, f7, f8, f13, f14, f15, f25, b_b1, b_b3, b_b11, ld_97_12_2], by simp [-splice, f3, f6, f7, f8, f13, f14, f15, f25, b_b1, b_b3, b_b11, ld_97_12_2], b_b1, l_b1, b_b3, l_b3, b_b11, l_b11, d_b1_b3, d_b1_b11, d_b3_b11⟩
        clear f3 f6 f7 f8 f13 f14 f15 f25 b_b1 l_b1 b_b3 l_b3 b_b11 l_b11 d_b1_b3 d_b1_b11 d_b3_b11 ln0
        rintro t H n ⟨f3, f6, f7, f8, f13, f14, f15, f30, f31, b_b1, l_b1, b_b3, l_b3, b_b11, l_b11, d_b1_b3, d_b1_b11, d_b3_b11⟩
        refine Stk.om (mop_store (z := 1) rfl f31 b_b11 f30 rfl (by rw [len97]; decide) rfl (st_97_12_2 _ _)) (by simp [f3, f6, f7, f8, f13, f14, f15, f30, f31]) rfl (fun t' ht' => ?_)
        refine Stk.gen (fun t H n => t 3 = .own b1 0 ∧ t 6 = .osl b3 0 v6.length (some v6.length) ∧ t 7 = .sc (.int .i64 v5) ∧ t 8 = .own b11 0 ∧ t 13 = .ssl (encs c97 a0) a0.length false ∧ t 14 = .sc (.int .i64 (a0.length : Int)) ∧ t 15 = .sc (.int .i64 v5) ∧ H b1 = some (.cells (c97 a1) 97) ∧ b1 < n ∧ H b3 = some (.cells (encs c97 v6) 97) ∧ b3 < n ∧ H b11 = some (.cells (c97 ({ x10 with Coef := (IntKind.i64.wrap (x10.Coef * a1.Coef)) })) 97) ∧ b11 < n ∧ b1 ≠ b3 ∧ b1 ≠ b11 ∧ b3 ≠ b11) ⟨by simp [ht', f3], by simp [ht', f6], by simp [ht', f7], by simp [ht', f8], by simp [ht', f13], by simp [ht', f14], by simp [ht', f15], (upd_ne _ _ d_b1_b11).trans b_b1, l_b1, (upd_ne _ _ d_b3_b11).trans b_b3, l_b3, upd_same _ _ _, l_b11, d_b1_b3, d_b1_b11, d_b3_b11⟩ ?_
        clear f3 f6 f7 f8 f13 f14 f15 f30 f31 b_b1 l_b1 b_b3 l_b3 b_b11 l_b11 d_b1_b3 d_b1_b11 d_b3_b11 ht' t'
        rintro t H n ⟨f3, f6, f7, f8, f13, f14, f15, b_b1, l_b1, b_b3, l_b3, b_b11, l_b11, d_b1_b3, d_b1_b11, d_b3_b11⟩
        refine Stk.on ?_
        refine Stk.sq ?_
        refine Stk.sq ?_
        refine Stk.rg ?_
        refine Stk.run 1 (fun t H n => t 3 = .own b1 0 ∧ t 6 = .osl b3 0 v6.length (some v6.length) ∧ t 7 = .sc (.int .i64 v5) ∧ t 8 = .own b11 0 ∧ t 13 = .ssl (encs c97 a0) a0.length false ∧ t 14 = .sc (.int .i64 (a0.length : Int)) ∧ t 15 = .sc (.int .i64 v5) ∧ t 32 = .sc (.int .i64 0) ∧ H b1 = some (.cells (c97 a1) 97) ∧ b1 < n ∧ H b3 = some (.cells (encs c97 v6) 97) ∧ b3 < n ∧ H b11 = some (.cells (c97 ({ x10 with Coef := (IntKind.i64.wrap (x10.Coef * a1.Coef)) })) 97) ∧ b11 < n ∧ b1 ≠ b3 ∧ b1 ≠ b11 ∧ b3 ≠ b11) (fun J hJ => ?_) ?_
        · simp [-splice, f3, f6, f7, f8, f13, f14, f15, b_b1, b_b3, b_b11]
          exact hJ _ _ _ ⟨by simp [f3], by simp [f6], by simp [f7], by simp [f8], by simp [f13], by simp [f14], by simp [f15], by simp [-splice, f3, f6, f7, f8, f13, f14, f15, b_b1, b_b3, b_b11], b_b1, l_b1, b_b3, l_b3, b_b11, l_b11, d_b1_b3, d_b1_b11, d_b3_b11⟩
        clear f3 f6 f7 f8 f13 f14 f15 b_b1 l_b1 b_b3 l_b3 b_b11 l_b11 d_b1_b3 d_b1_b11 d_b3_b11
        rintro t H n ⟨f3, f6, f7, f8, f13, f14, f15, f32, b_b1, l_b1, b_b3, l_b3, b_b11, l_b11, d_b1_b3, d_b1_b11, d_b3_b11⟩
        refine Stk.on ?_
        obtain ⟨K3, hK3, h⟩ := jnd h
        refine Stk.jn (fun t H n => ∃ v14 : api_Term, K3 v14 = some r ∧ t 3 = .own b1 0 ∧ t 6 = .osl b3 0 v6.length (some v6.length) ∧ t 7 = .sc (.int .i64 v5) ∧ t 8 = .own b11 0 ∧ t 13 = .ssl (encs c97 a0) a0.length false ∧ t 14 = .sc (.int .i64 (a0.length : Int)) ∧ t 15 = .sc (.int .i64 v5) ∧ H b1 = some (.cells (c97 a1) 97) ∧ b1 < n ∧ H b3 = some (.cells (encs c97 v6) 97) ∧ b3 < n ∧ H b11 = some (.cells (c97 v14) 97) ∧ b11 < n ∧ b1 ≠ b3 ∧ b1 ≠ b11 ∧ b3 ≠ b11) trivial (fun J3 hJ3 => ?_) ?_
        · skip
          refine Stk.bk ?_
          refine Stk.lo (fun μ t H n => ∃ v15 : Int, ∃ v16 : api_Term, poly_scaled_L1 F a1 K3 μ v15 v16 = some r ∧ t 3 = .own b1 0 ∧ t 6 = .osl b3 0 v6.length (some v6.length) ∧ t 7 = .sc (.int .i64 v5) ∧ t 8 = .own b11 0 ∧ t 13 = .ssl (encs c97 a0) a0.length false ∧ t 14 = .sc (.int .i64 (a0.length : Int)) ∧ t 15 = .sc (.int .i64 v5) ∧ t 32 = .sc (.int .i64 v15) ∧ H b1 = some (.cells (c97 a1) 97) ∧ b1 < n ∧ H b3 = some (.cells (encs c97 v6) 97) ∧ b3 < n ∧ H b11 = some (.cells (c97 v16) 97) ∧ b11 < n ∧ b1 ≠ b3 ∧ b1 ≠ b11 ∧ b3 ≠ b11) F ⟨0, ({ x10 with Coef := (IntKind.i64.wrap (x10.Coef * a1.Coef)) }), h, f3, f6, f7, f8, f13, f14, f15, f32, b_b1, l_b1, b_b3, l_b3, b_b11, l_b11, d_b1_b3, d_b1_b11, d_b3_b11⟩ ?_
          clear h f3 f6 f7 f8 f13 f14 f15 f32 b_b1 l_b1 b_b3 l_b3 b_b11 l_b11 d_b1_b3 d_b1_b11 d_b3_b11
          rintro J4 hJ4 μ t H n ⟨v15, v16, h, f3, f6, f7, f8, f13, f14, f15, f32, b_b1, l_b1, b_b3, l_b3, b_b11, l_b11, d_b1_b3, d_b1_b11, d_b3_b11⟩
          cases μ with
          | zero => exact absurd h (by simp [poly_scaled_L1])
          | succ μ =>
          rw [poly_scaled_L1] at h
          refine Stk.sq ?_
          refine Stk.rg ?_
          refine Stk.run 1 (fun t H n => t 3 = .own b1 0 ∧ t 6 = .osl b3 0 v6.length (some v6.length) ∧ t 7 = .sc (.int .i64 v5) ∧ t 8 = .own b11 0 ∧ t 13 = .ssl (encs c97 a0) a0.length false ∧ t 14 = .sc (.int .i64 (a0.length : Int)) ∧ t 15 = .sc (.int .i64 v5) ∧ t 32 = .sc (.int .i64 v15) ∧ t 33 = .sc (.bool (decide (v15 < 12))) ∧ H b1 = some (.cells (c97 a1) 97) ∧ b1 < n ∧ H b3 = some (.cells (encs c97 v6) 97) ∧ b3 < n ∧ H b11 = some (.cells (c97 v16) 97) ∧ b11 < n ∧ b1 ≠ b3 ∧ b1 ≠ b11 ∧ b3 ≠ b11) (fun J hJ => ?_) ?_
          · simp [-splice, f3, f6, f7, f8, f13, f14, f15, f32, b_b1, b_b3, b_b11]
            exact hJ _ _ _ ⟨by simp [f3], by simp [f6], by simp [f7], by simp [f8], by simp [f13], by simp [f14], by simp [f15], by simp [f32], by simp [-splice, f3, f6, f7, f8, f13, f14, f15, f32, b_b1, b_b3, b_b11], b_b1, l_b1, b_b3, l_b3, b_b11, l_b11, d_b1_b3, d_b1_b11, d_b3_b11⟩
          clear f3 f6 f7 f8 f13 f14 f15 f32 b_b1 l_b1 b_b3 l_b3 b_b11 l_b11 d_b1_b3 d_b1_b11 d_b3_b11
          rintro t H n ⟨f3, f6, f7, f8, f13, f14, f15, f32, f33, b_b1, l_b1, b_b3, l_b3, b_b11, l_b11, d_b1_b3, d_b1_b11, d_b3_b11⟩
          refine Stk.on ?_
          refine Stk.sq ?_
          refine Stk.cond (decide (v15 < 12)) (by exact f33) (fun hb19 => ?_) (fun hb19 => ?_)
          · have h := cT hb19 h
            refine Stk.sk ?_
            refine Stk.sq ?_
            refine Stk.bk ?_
            refine Stk.sq ?_
            refine Stk.rg ?_
            refine Stk.run 2 (fun t H n => t 3 = .own b1 0 ∧ t 6 = .osl b3 0 v6.length (some v6.length) ∧ t 7 = .sc (.int .i64 v5) ∧ t 8 = .own b11 0 ∧ t 9 = .sc (.int .i64 v15) ∧ t 13 = .ssl (encs c97 a0) a0.length false ∧ t 14 = .sc (.int .i64 (a0.length : Int)) ∧ t 15 = .sc (.int .i64 v5) ∧ t 32 = .sc (.int .i64 v15) ∧ H b1 = some (.cells (c97 a1) 97) ∧ b1 < n ∧ H b3 = some (.cells (encs c97 v6) 97) ∧ b3 < n ∧ H b11 = some (.cells (c97 v16) 97) ∧ b11 < n ∧ b1 ≠ b3 ∧ b1 ≠ b11 ∧ b3 ≠ b11) (fun J hJ => ?_) ?_
            · simp [-splice, f3, f6, f7, f8, f13, f14, f15, f32, f33, b_b1, b_b3, b_b11]
              exact hJ _ _ _ ⟨by simp [f3], by simp [f6], by simp [f7], by simp [f8], by simp [-splice, f3, f6, f7, f8, f13, f14, f15, f32, f33, b_b1, b_b3, b_b11], by simp [f13], by simp [f14], by simp [f15], by simp [f32], b_b1, l_b1, b_b3, l_b3, b_b11, l_b11, d_b1_b3, d_b1_b11, d_b3_b11⟩
            clear f3 f6 f7 f8 f13 f14 f15 f32 f33 b_b1 l_b1 b_b3 l_b3 b_b11 l_b11 d_b1_b3 d_b1_b11 d_b3_b11
            rintro t H n ⟨f3, f6, f7, f8, f9, f13, f14, f15, f32, b_b1, l_b1, b_b3, l_b3, b_b11, l_b11, d_b1_b3, d_b1_b11, d_b3_b11⟩
            refine Stk.on ?_
            obtain ⟨n0, hn0⟩ : ∃ m, m = n := ⟨n, rfl⟩
            have ln0 : n0 ≤ n := Nat.le_of_eq hn0
            refine Stk.rgD [.rd [], .rd [], .rd [], .rd [b11], .rd [], .rd [], .rd [], .rd [b1], .rd [], .rd [], .rd [], .mem [b11] n0] none (by kernel_rfl) (by rfl) rfl (by simp [below, hn0, l_b1, hn0, l_b3, hn0, l_b11]) rfl ?_
            obtain ⟨x20, hx20, h⟩ := bnd h
            obtain ⟨i0x20, i1x20, i2x20, _⟩ := idx_ok hx20
            have i3x20 : v15 < 12 := by rw [v16.Exps.2] at i1x20; exact i1x20
            have i4x20 : v15.toNat < 12 := by omega
            have qx20 : partOf T.T 5 (c97 v16) v15.toNat = some (.sc (.int .u8 x20)) := by
              rw [c97]
              rw [part_head T.t5 (by decide) (by rw [Enc.len (e := c95)]; show _ + 1 ≤ _; omega)]
              rw [c95]
              have e0 := part_elem0 (e := c5) (z := 1) (T := T.T) (ty := 5) T.t5 (by decide) (by decide) hx20 0 (by decide)
              (try simp only [Nat.mul_one, Nat.add_zero] at e0)
              exact e0.trans rfl
            obtain ⟨x21, hx21, h⟩ := bnd h
            obtain ⟨i0x21, i1x21, i2x21, _⟩ := idx_ok hx21
            have i3x21 : v15 < 12 := by rw [a1.Exps.2] at i1x21; exact i1x21
            have i4x21 : v15.toNat < 12 := by omega
            have qx21 : partOf T.T 5 (c97 a1) v15.toNat = some (.sc (.int .u8 x21)) := by
              rw [c97]
              rw [part_head T.t5 (by decide) (by rw [Enc.len (e := c95)]; show _ + 1 ≤ _; omega)]
              rw [c95]
              have e0 := part_elem0 (e := c5) (z := 1) (T := T.T) (ty := 5) T.t5 (by decide) (by decide) hx21 0 (by decide)
              (try simp only [Nat.mul_one, Nat.add_zero] at e0)
              exact e0.trans rfl
            obtain ⟨x22, hx22, h⟩ := bnd h
            obtain ⟨i0x22, i1x22, i2x22, _⟩ := idx_ok hx22
            have i3x22 : v15 < 12 := by rw [v16.Exps.2] at i1x22; exact i1x22
            have i4x22 : v15.toNat < 12 := by omega
            refine Stk.runD 11 (fun t H n => t 3 = .own b1 0 ∧ t 6 = .osl b3 0 v6.length (some v6.length) ∧ t 7 = .sc (.int .i64 v5) ∧ t 8 = .own b11 0 ∧ t 13 = .ssl (encs c97 a0) a0.length false ∧ t 14 = .sc (.int .i64 (a0.length : Int)) ∧ t 15 = .sc (.int .i64 v5) ∧ t 32 = .sc (.int .i64 v15) ∧ t 43 = .sc (.int .u8 (IntKind.u8.wrap (x20 + x21))) ∧ t 45 = .own b11 (v15.toNat) ∧ H b1 = some (.cells (c97 a1) 97) ∧ b1 < n ∧ H b3 = some (.cells (encs c97 v6) 97) ∧ b3 < n ∧ H b11 = some (.cells (c97 v16) 97) ∧ b11 < n ∧ b1 ≠ b3 ∧ b1 ≠ b11 ∧ b3 ≠ b11 ∧ n0 ≤ n) (fun J hJ => ?_) ?_
            · simp [-splice, f3, f6, f7, f8, f9, f13, f14, f15, f32, b_b1, b_b3, b_b11, i0x20, i1x20, i3x20, i4x20, qx20, i0x21, i1x21, i3x21, i4x21, qx21, i0x22, i1x22, i3x22, i4x22]
              exact hJ _ _ _ ⟨by simp [f3], by simp [f6], by simp [f7], by simp [f8], by simp [f13], by simp [f14], by simp [f15], by simp [f32], by simp [-splice, f3, f6, f7, f8, f9, f13, f14, f15, f32, b_b1, b_b3, b_b11, i0x20, i1x20, i3x20, i4x20, qx20, i0x21, i1x21, i3x21, i4x21, qx21, i0x22, i1x22, i3x22, i4x22], by simp [-splice, f3, f6, f7, f8, f9, f13, f14, f15, f32, b_b1, b_b3, b_b11, i0x20, i1x20, i3x20, i4x20, qx20, i0x21, i1x21, i3x21, i4x21, qx21, i0x22, i1x22, i3x22, i4x22], b_b1, l_b1, b_b3, l_b3, b_b11, l_b11, d_b1_b3, d_b1_b11, d_b3_b11, ln0⟩
            clear f3 f6 f7 f8 f9 f13 f14 f15 f32 b_b1 l_b1 b_b3 l_b3 b_b11 l_b11 d_b1_b3 d_b1_b11 d_b3_b11 ln0
            rintro t H n ⟨f3, f6, f7, f8, f13, f14, f15, f32, f43, f45, b_b1, l_b1, b_b3, l_b3, b_b11, l_b11, d_b1_b3, d_b1_b11, d_b3_b11, ln0⟩
            have sp : splice (c97 v16) (v15.toNat) ([.sc (.int .u8 (IntKind.u8.wrap (x20 + x21)))]) = c97 ({ v16 with Exps := (v16.Exps.set v15 (IntKind.u8.wrap (x20 + x21))) }) := by
              rw [c97, c97]
              rw [splice_head (by rw [Enc.len (e := c95)]; simp; omega)]
              congr 1
              rw [c95, c95, Arr.set]
              have e0 := splice_elem0 (e := c5) (z := 1) hx22
              simpa using e0 _
            refine Stk.omD (S := [b11]) (b := n0) rfl (fun j hj hm => upd_ne _ _ (by simpa using hm)) rfl (mop_store (z := 1) rfl f45 b_b11 f43 rfl (by rw [len97]; omega) rfl sp) (by simp [f3, f6, f7, f8, f13, f14, f15, f32, f43, f45]) rfl (fun t' ht' => ?_)
            refine Stk.gen (fun t H n => t 3 = .own b1 0 ∧ t 6 = .osl b3 0 v6.length (some v6.length) ∧ t 7 = .sc (.int .i64 v5) ∧ t 8 = .own b11 0 ∧ t 13 = .ssl (encs c97 a0) a0.length false ∧ t 14 = .sc (.int .i64 (a0.length : Int)) ∧ t 15 = .sc (.int .i64 v5) ∧ t 32 = .sc (.int .i64 v15) ∧ H b1 = some (.cells (c97 a1) 97) ∧ b1 < n ∧ H b3 = some (.cells (encs c97 v6) 97) ∧ b3 < n ∧ H b11 = some (.cells (c97 ({ v16 with Exps := (v16.Exps.set v15 (IntKind.u8.wrap (x20 + x21))) })) 97) ∧ b11 < n ∧ b1 ≠ b3 ∧ b1 ≠ b11 ∧ b3 ≠ b11 ∧ n0 ≤ n) ⟨by simp [ht', f3], by simp [ht', f6], by simp [ht', f7], by simp [ht', f8], by simp [ht', f13], by simp [ht', f14], by simp [ht', f15], by simp [ht', f32], (upd_ne _ _ d_b1_b11).trans b_b1, l_b1, (upd_ne _ _ d_b3_b11).trans b_b3, l_b3, upd_same _ _ _, l_b11, d_b1_b3, d_b1_b11, d_b3_b11, ln0⟩ ?_
            clear f3 f6 f7 f8 f13 f14 f15 f32 f43 f45 b_b1 l_b1 b_b3 l_b3 b_b11 l_b11 d_b1_b3 d_b1_b11 d_b3_b11 ln0 sp ht' t'
            rintro t H n ⟨f3, f6, f7, f8, f13, f14, f15, f32, b_b1, l_b1, b_b3, l_b3, b_b11, l_b11, d_b1_b3, d_b1_b11, d_b3_b11, ln0⟩
            refine Stk.onD ?_
            refine Stk.bn ?_
            refine Stk.rg ?_
            refine Stk.run 2 (fun t H n => t 3 = .own b1 0 ∧ t 6 = .osl b3 0 v6.length (some v6.length) ∧ t 7 = .sc (.int .i64 v5) ∧ t 8 = .own b11 0 ∧ t 13 = .ssl (encs c97 a0) a0.length false ∧ t 14 = .sc (.int .i64 (a0.length : Int)) ∧ t 15 = .sc (.int .i64 v5) ∧ t 32 = .sc (.int .i64 (IntKind.i64.wrap (v15 + 1))) ∧ H b1 = some (.cells (c97 a1) 97) ∧ b1 < n ∧ H b3 = some (.cells (encs c97 v6) 97) ∧ b3 < n ∧ H b11 = some (.cells (c97 ({ v16 with Exps := (v16.Exps.set v15 (IntKind.u8.wrap (x20 + x21))) })) 97) ∧ b11 < n ∧ b1 ≠ b3 ∧ b1 ≠ b11 ∧ b3 ≠ b11) (fun J hJ => ?_) ?_
            · simp [-splice, f3, f6, f7, f8, f13, f14, f15, f32, b_b1, b_b3, b_b11]
              exact hJ _ _ _ ⟨by simp [f3], by simp [f6], by simp [f7], by simp [f8], by simp [f13], by simp [f14], by simp [f15], by simp [-splice, f3, f6, f7, f8, f13, f14, f15, f32, b_b1, b_b3, b_b11], b_b1, l_b1, b_b3, l_b3, b_b11, l_b11, d_b1_b3, d_b1_b11, d_b3_b11⟩
            clear f3 f6 f7 f8 f13 f14 f15 f32 b_b1 l_b1 b_b3 l_b3 b_b11 l_b11 d_b1_b3 d_b1_b11 d_b3_b11 ln0
            rintro t H n ⟨f3, f6, f7, f8, f13, f14, f15, f32, b_b1, l_b1, b_b3, l_b3, b_b11, l_b11, d_b1_b3, d_b1_b11, d_b3_b11⟩
            refine Stk.on ?_
            exact Stk.ln μ (Nat.lt_succ_self _) (hJ4 _ _ _ _ ⟨(IntKind.i64.wrap (v15 + 1)), ({ v16 with Exps := (v16.Exps.set v15 (IntKind.u8.wrap (x20 + x21))) }), h, f3, f6, f7, f8, f13, f14, f15, f32, b_b1, l_b1, b_b3, l_b3, b_b11, l_b11, d_b1_b3, d_b1_b11, d_b3_b11⟩)
          · have h := cF hb19 h
            refine Stk.ex rfl ?_
            exact Stk.ln 0 (by decide) (hJ3 _ _ _ ⟨v16, h, f3, f6, f7, f8, f13, f14, f15, b_b1, l_b1, b_b3, l_b3, b_b11, l_b11, d_b1_b3, d_b1_b11, d_b3_b11⟩)
        clear h f3 f6 f7 f8 f13 f14 f15 f32 b_b1 l_b1 b_b3 l_b3 b_b11 l_b11 d_b1_b3 d_b1_b11 d_b3_b11
        rintro t H n ⟨v14, h, f3, f6, f7, f8, f13, f14, f15, b_b1, l_b1, b_b3, l_b3, b_b11, l_b11, d_b1_b3, d_b1_b11, d_b3_b11⟩
        subst hK3
        refine Stk.rg ?_
        obtain ⟨x23, hx23, h⟩ := bnd h
        obtain ⟨i0x23, i1x23, i2x23, _⟩ := idx_ok hx23
        refine Stk.run 4 (fun t H n => t 3 = .own b1 0 ∧ t 6 = .osl b3 0 v6.length (some v6.length) ∧ t 13 = .ssl (encs c97 a0) a0.length false ∧ t 14 = .sc (.int .i64 (a0.length : Int)) ∧ t 15 = .sc (.int .i64 v5) ∧ t 49 = .agg (c97 v14) ∧ t 50 = .own b3 (v5.toNat * 13) ∧ H b1 = some (.cells (c97 a1) 97) ∧ b1 < n ∧ H b3 = some (.cells (encs c97 v6) 97) ∧ b3 < n ∧ b1 ≠ b3) (fun J hJ => ?_) ?_
        · simp [-splice, f3, f6, f7, f8, f13, f14, f15, b_b1, b_b3, b_b11, ld_97_0_97, i0x23, i1x23]
          exact hJ _ _ _ ⟨by simp [f3], by simp [f6], by simp [f13], by simp [f14], by simp [f15], by simp [-splice, f3, f6, f7, f8, f13, f14, f15, b_b1, b_b3, b_b11, ld_97_0_97, i0x23, i1x23], by simp [-splice, f3, f6, f7, f8, f13, f14, f15, b_b1, b_b3, b_b11, ld_97_0_97, i0x23, i1x23], b_b1, l_b1, b_b3, l_b3, d_b1_b3⟩
        clear f3 f6 f7 f8 f13 f14 f15 b_b1 l_b1 b_b3 l_b3 b_b11 l_b11 d_b1_b3 d_b1_b11 d_b3_b11
        rintro t H n ⟨f3, f6, f13, f14, f15, f49, f50, b_b1, l_b1, b_b3, l_b3, d_b1_b3⟩
        have sp : splice (encs c97 v6) (v5.toNat * 13) (c97 v14) = encs c97 (v6.set v5.toNat v14) := by
          have e0 := splice_elem0 (e := c97) (z := 13) hx23 v14
          simpa using e0
        refine Stk.om (mop_store (z := 13) rfl f50 b_b3 f49 (len97 _) (by rw [length_encs (e := c97)]; omega) (ok97 _) sp) (by simp [f3, f6, f13, f14, f15, f49, f50]) rfl (fun t' ht' => ?_)
        refine Stk.gen (fun t H n => t 3 = .own b1 0 ∧ t 6 = .osl b3 0 (v6.set v5.toNat v14).length (some (v6.set v5.toNat v14).length) ∧ t 13 = .ssl (encs c97 a0) a0.length false ∧ t 14 = .sc (.int .i64 (a0.length : Int)) ∧ t 15 = .sc (.int .i64 v5) ∧ H b1 = some (.cells (c97 a1) 97) ∧ b1 < n ∧ H b3 = some (.cells (encs c97 (v6.set v5.toNat v14)) 97) ∧ b3 < n ∧ b1 ≠ b3) ⟨by simp [ht', f3], by simp [-splice, ht', f3, f6, f13, f14, f15, f49, f50], by simp [ht', f13], by simp [ht', f14], by simp [ht', f15], (upd_ne _ _ d_b1_b3).trans b_b1, l_b1, upd_same _ _ _, l_b3, d_b1_b3⟩ ?_
        clear f3 f6 f13 f14 f15 f49 f50 b_b1 l_b1 b_b3 l_b3 d_b1_b3 sp ht' t'
        rintro t H n ⟨f3, f6, f13, f14, f15, b_b1, l_b1, b_b3, l_b3, d_b1_b3⟩
        refine Stk.on ?_
        refine Stk.bn ?_
        refine Stk.rg ?_
        refine Stk.run 2 (fun t H n => t 3 = .own b1 0 ∧ t 6 = .osl b3 0 (v6.set v5.toNat v14).length (some (v6.set v5.toNat v14).length) ∧ t 13 = .ssl (encs c97 a0) a0.length false ∧ t 14 = .sc (.int .i64 (a0.length : Int)) ∧ t 15 = .sc (.int .i64 (IntKind.i64.wrap (v5 + 1))) ∧ H b1 = some (.cells (c97 a1) 97) ∧ b1 < n ∧ H b3 = some (.cells (encs c97 (v6.set v5.toNat v14)) 97) ∧ b3 < n ∧ b1 ≠ b3) (fun J hJ => ?_) ?_
        · simp [-splice, f3, f6, f13, f14, f15, b_b1, b_b3]
          exact hJ _ _ _ ⟨by simp [f3], by simp [f6], by simp [f13], by simp [f14], by simp [-splice, f3, f6, f13, f14, f15, b_b1, b_b3], b_b1, l_b1, b_b3, l_b3, d_b1_b3⟩
        clear f3 f6 f13 f14 f15 b_b1 l_b1 b_b3 l_b3 d_b1_b3
        rintro t H n ⟨f3, f6, f13, f14, f15, b_b1, l_b1, b_b3, l_b3, d_b1_b3⟩
        refine Stk.on ?_
        exact Stk.ln μ (Nat.lt_succ_self _) (hJ2 _ _ _ _ ⟨(IntKind.i64.wrap (v5 + 1)), (v6.set v5.toNat v14), h, f3, f6, f13, f14, f15, b_b1, l_b1, b_b3, l_b3, d_b1_b3⟩)
    · have h := cF hb9 h
      refine Stk.ex rfl ?_
      exact Stk.ln 0 (by decide) (hJ1 _ _ _ ⟨v6, h, f6, b_b3, l_b3⟩)
  clear h f3 f6 f13 f14 f15 b_b1 l_b1 b_b3 l_b3 d_b1_b3
  rintro t H n ⟨v4, h, f6, b_b3, l_b3⟩
  subst hK1
  refine Stk.sq ?_
  refine Stk.rg ?_
  refine Stk.run 2 (fun t H n => t 52 = .osl b3 0 v4.length (some v4.length) ∧ t 53 = .osl b3 0 v4.length (some v4.length) ∧ H b3 = some (.cells (encs c97 v4) 97) ∧ b3 < n) (fun J hJ => ?_) ?_
  · simp [-splice, f6, b_b3]
    exact hJ _ _ _ ⟨by simp [-splice, f6, b_b3], by simp [-splice, f6, b_b3], b_b3, l_b3⟩
  clear f6 b_b3 l_b3
  rintro t H n ⟨f52, f53, b_b3, l_b3⟩
  obtain ⟨x24, hx24, h⟩ := bnd h
  refine Stk.cv (g := 38) (args := [.osl b3 0 v4.length (some v4.length)]) (args' := [.ssl (encs c97 v4) v4.length false]) (v := .sc (.bool x24)) [b3] (ok_poly_Fit F _ _ hx24) (by simp [f52, f53]) rfl rfl (by simp [f52, f53]) (.cons (view_row fr97 b_b3 (by simp) _) (.nil)) (.inr rfl) (fun t' ht' => ?_)
  refine Stk.gen (fun t H n => t 52 = .osl b3 0 v4.length (some v4.length) ∧ t 54 = .sc (.bool x24) ∧ H b3 = some (.cells (encs c97 v4) 97) ∧ b3 < n) ⟨by simp [ht', f52], by simp [ht'], b_b3, l_b3⟩ ?_
  clear f52 f53 b_b3 l_b3 ht' t'
  rintro t H n ⟨f52, f54, b_b3, l_b3⟩
  refine Stk.run 2 (fun t H n => t 4 = .osl b3 0 v4.length (some v4.length) ∧ t 5 = .sc (.bool x24) ∧ H b3 = some (.cells (encs c97 v4) 97) ∧ b3 < n) (fun J hJ => ?_) ?_
  · simp [-splice, f52, f54, b_b3]
    exact hJ _ _ _ ⟨by simp [-splice, f52, f54, b_b3], by simp [-splice, f52, f54, b_b3], b_b3, l_b3⟩
  clear f52 f54 b_b3 l_b3
  rintro t H n ⟨f4, f5, b_b3, l_b3⟩
  refine Stk.wkf trivial [b3] 4 (.ssl (encs c97 v4) v4.length false) (by rw [f4]; exact .inr (.inr (view_row fr97 b_b3 (by simp) _))) (fun t' H' ht' hH' => ?_)
  refine Stk.gen (fun t H n => t 4 = .ssl (encs c97 v4) v4.length false ∧ t 5 = .sc (.bool x24)) ⟨by simp [ht', f4], by simp [ht', f5]⟩ ?_
  clear f4 f5 b_b3 l_b3 hH' ht' t' H'
  rintro t H n ⟨f4, f5⟩
  refine Stk.on ?_
  refine Stk.rt ?_
  have hq := Option.some.inj h; subst hq
  exact (hr _ _ _ (.tup [.ssl (encs c97 v4) v4.length false, .sc (.bool x24)]) ([]) (by simp [f4, f5]) (.inr (.inr (.tup (.cons (.free (freeL_encs fr97 _)) (.cons (.free (rfl)) (.nil))))))).1
theorem ok_poly_Mul (F : Nat) (a0 : (List api_Term)) (a1 : (List api_Term)) (r : ((List api_Term) × Int)) (h : poly_Mul F a0 a1 = some r) : RunF Try.prog T.T 21 [.ssl (encs c97 a0) a0.length false, .ssl (encs c97 a1) a1.length false] (.tup [.ssl (encs c97 r.1) r.1.length false, .sc (.int .i64 r.2)]) := by
  rw [poly_Mul] at h
  refine RunF.z Try.func21 rfl rfl rfl rfl rfl (fun C hr => ?_)
  refine Stk.gen (fun t H n => t 0 = .ssl (encs c97 a0) a0.length false ∧ t 1 = .ssl (encs c97 a1) a1.length false) ⟨by simp, by simp⟩ ?_
  rintro t H n ⟨f0, f1⟩
  refine Stk.sq ?_
  refine Stk.rg ?_
  refine Stk.run 1 (fun t H n => t 0 = .ssl (encs c97 a0) a0.length false ∧ t 1 = .ssl (encs c97 a1) a1.length false) (fun J hJ => ?_) ?_
  · simp [-splice, f0, f1]
    exact hJ _ _ _ ⟨by simp [f0], by simp [f1]⟩
  clear f0 f1
  rintro t H n ⟨f0, f1⟩
  refine Stk.run 1 (fun t H n => t 0 = .ssl (encs c97 a0) a0.length false ∧ t 1 = .ssl (encs c97 a1) a1.length false) (fun J hJ => ?_) ?_
  · simp [-splice, f0, f1]
    exact hJ _ _ _ ⟨by simp [f0], by simp [f1]⟩
  clear f0 f1
  rintro t H n ⟨f0, f1⟩
  refine Stk.on ?_
  refine Stk.sq ?_
  refine Stk.rg ?_
  refine Stk.run 1 (fun t H n => t 0 = .ssl (encs c97 a0) a0.length false ∧ t 1 = .ssl (encs c97 a1) a1.length false ∧ t 6 = .sc (.slice none 0 0)) (fun J hJ => ?_) ?_
  · simp [-splice, f0, f1]
    exact hJ _ _ _ ⟨by simp [f0], by simp [f1], by simp [-splice, f0, f1]⟩
  clear f0 f1
  rintro t H n ⟨f0, f1, f6⟩
  refine Stk.wk trivial 6 (.ssl (encs c97 ([] : (List api_Term))) ([] : (List api_Term)).length false) (by rw [f6]; exact .inr (.inr .nilS)) (fun t' ht' => ?_)
  refine Stk.gen (fun t H n => t 0 = .ssl (encs c97 a0) a0.length false ∧ t 1 = .ssl (encs c97 a1) a1.length false ∧ t 6 = .ssl (encs c97 ([] : (List api_Term))) ([] : (List api_Term)).length false) ⟨by simp [ht', f0], by simp [ht', f1], by simp [ht', f6]⟩ ?_
  clear f0 f1 f6 ht' t'
  rintro t H n ⟨f0, f1, f6⟩
  refine Stk.on ?_
  refine Stk.sq ?_
  refine Stk.sq ?_
  refine Stk.rg ?_
  refine Stk.run 3 (fun t H n => t 1 = .ssl (encs c97 a1) a1.length false ∧ t 6 = .ssl (encs c97 ([] : (List api_Term))) ([] : (List api_Term)).length false ∧ t 12 = .ssl (encs c97 a0) a0.length false ∧ t 13 = .sc (.int .i64 (a0.length : Int)) ∧ t 14 = .sc (.int .i64 0)) (fun J hJ => ?_) ?_
  · simp [-splice, f0, f1, f6]
    exact hJ _ _ _ ⟨by simp [f1], by simp [f6], by simp [-splice, f0, f1, f6], by simp [-splice, f0, f1, f6], by simp [-splice, f0, f1, f6]⟩
  clear f0 f1 f6
  rintro t H n ⟨f1, f6, f12, f13, f14⟩
  refine Stk.on ?_
  refine Stk.bk ?_
  refine Stk.lo (fun μ t H n => ∃ v1 : (List api_Term), ∃ v2 : Int, poly_Mul_L0 F a0 a1 μ v1 v2 = some r ∧ t 1 = .ssl (encs c97 a1) a1.length false ∧ t 6 = .ssl (encs c97 v1) v1.length false ∧ t 12 = .ssl (encs c97 a0) a0.length false ∧ t 13 = .sc (.int .i64 (a0.length : Int)) ∧ t 14 = .sc (.int .i64 v2)) F ⟨([] : (List api_Term)), 0, h, f1, f6, f12, f13, f14⟩ ?_
  clear h f1 f6 f12 f13 f14
  rintro J1 hJ1 μ t H n ⟨v1, v2, h, f1, f6, f12, f13, f14⟩
  cases μ with
  | zero => exact absurd h (by simp [poly_Mul_L0])
  | succ μ =>
  rw [poly_Mul_L0] at h
  refine Stk.sq ?_
  refine Stk.rg ?_
  refine Stk.run 1 (fun t H n => t 1 = .ssl (encs c97 a1) a1.length false ∧ t 6 = .ssl (encs c97 v1) v1.length false ∧ t 12 = .ssl (encs c97 a0) a0.length false ∧ t 13 = .sc (.int .i64 (a0.length : Int)) ∧ t 14 = .sc (.int .i64 v2) ∧ t 15 = .sc (.bool (decide (v2 < (a0.length : Int))))) (fun J hJ => ?_) ?_
  · simp [-splice, f1, f6, f12, f13, f14]
    exact hJ _ _ _ ⟨by simp [f1], by simp [f6], by simp [f12], by simp [f13], by simp [f14], by simp [-splice, f1, f6, f12, f13, f14]⟩
  clear f1 f6 f12 f13 f14
  rintro t H n ⟨f1, f6, f12, f13, f14, f15⟩
  refine Stk.on ?_
  refine Stk.sq ?_
  refine Stk.cond (decide (v2 < (a0.length : Int))) (by exact f15) (fun hb5 => ?_) (fun hb5 => ?_)
  · have h := cT hb5 h
    refine Stk.sk ?_
    refine Stk.sq ?_
    refine Stk.bk ?_
    refine Stk.sq ?_
    refine Stk.rg ?_
    obtain ⟨x6, hx6, h⟩ := bnd h
    obtain ⟨i0x6, i1x6, i2x6, _⟩ := idx_ok hx6
    have ex6_0_97 : partOf T.T 97 (encs c97 a0) (v2.toNat * 13) = some (.agg (c97 x6)) := by
        have e0 := part_elem0 (e := c97) (z := 13) (T := T.T) (ty := 97) T.t97 (by decide) (by decide) hx6 0 (by decide)
        (try simp only [Nat.mul_one, Nat.add_zero] at e0)
        exact e0.trans (ld_97_0_97 _)
    refine Stk.run 2 (fun t H n => t 1 = .ssl (encs c97 a1) a1.length false ∧ t 6 = .ssl (encs c97 v1) v1.length false ∧ t 12 = .ssl (encs c97 a0) a0.length false ∧ t 13 = .sc (.int .i64 (a0.length : Int)) ∧ t 14 = .sc (.int .i64 v2) ∧ t 17 = .agg (c97 x6)) (fun J hJ => ?_) ?_
    · simp [-splice, f1, f6, f12, f13, f14, f15, i0x6, i1x6, pd97, ex6_0_97]
      exact hJ _ _ _ ⟨by simp [f1], by simp [f6], by simp [f12], by simp [f13], by simp [f14], by simp [-splice, f1, f6, f12, f13, f14, f15, i0x6, i1x6, pd97, ex6_0_97]⟩
    clear f1 f6 f12 f13 f14 f15
    rintro t H n ⟨f1, f6, f12, f13, f14, f17⟩
    refine Stk.om (mop_alloc T.t97 (cs := c97 (api_Term.mk (Arr.rep 12 0) 0)) rfl) (by simp [f1, f6, f12, f13, f14, f17]) rfl (fun t' ht' => ?_)
    refine Stk.gen (fun t H n => ∃ b7, t 1 = .ssl (encs c97 a1) a1.length false ∧ t 6 = .ssl (encs c97 v1) v1.length false ∧ t 8 = .own b7 0 ∧ t 12 = .ssl (encs c97 a0) a0.length false ∧ t 13 = .sc (.int .i64 (a0.length : Int)) ∧ t 14 = .sc (.int .i64 v2) ∧ t 17 = .agg (c97 x6) ∧ H b7 = some (.cells (c97 (api_Term.mk (Arr.rep 12 0) 0)) 97) ∧ b7 < n) ⟨n, by simp [ht', f1], by simp [ht', f6], by simp [ht'], by simp [ht', f12], by simp [ht', f13], by simp [ht', f14], by simp [ht', f17], upd_same _ _ _, Nat.lt_succ_self _⟩ ?_
    clear f1 f6 f12 f13 f14 f17 ht' t'
    rintro t H n ⟨b7, f1, f6, f8, f12, f13, f14, f17, b_b7, l_b7⟩
    refine Stk.om (mop_store (z := 13) rfl f8 b_b7 f17 (len97 _) (by rw [len97]; decide) (ok97 _) (st_97_0_97 _ _)) (by simp [f1, f6, f8, f12, f13, f14, f17]) rfl (fun t' ht' => ?_)
    refine Stk.gen (fun t H n => t 1 = .ssl (encs c97 a1) a1.length false ∧ t 6 = .ssl (encs c97 v1) v1.length false ∧ t 8 = .own b7 0 ∧ t 12 = .ssl (encs c97 a0) a0.length false ∧ t 13 = .sc (.int .i64 (a0.length : Int)) ∧ t 14 = .sc (.int .i64 v2) ∧ H b7 = some (.cells (c97 x6) 97) ∧ b7 < n) ⟨by simp [ht', f1], by simp [ht', f6], by simp [ht', f8], by simp [ht', f12], by simp [ht', f13], by simp [ht', f14], upd_same _ _ _, l_b7⟩ ?_
    clear f1 f6 f8 f12 f13 f14 f17 b_b7 l_b7 ht' t'
    rintro t H n ⟨f1, f6, f8, f12, f13, f14, b_b7, l_b7⟩
    refine Stk.on ?_
    refine Stk.sq ?_
    refine Stk.rg ?_
    refine Stk.run 2 (fun t H n => t 1 = .ssl (encs c97 a1) a1.length false ∧ t 6 = .ssl (encs c97 v1) v1.length false ∧ t 12 = .ssl (encs c97 a0) a0.length false ∧ t 13 = .sc (.int .i64 (a0.length : Int)) ∧ t 14 = .sc (.int .i64 v2) ∧ t 19 = .ssl (encs c97 a1) a1.length false ∧ t 20 = .agg (c97 x6)) (fun J hJ => ?_) ?_
    · simp [-splice, f1, f6, f8, f12, f13, f14, b_b7, ld_97_0_97]
      exact hJ _ _ _ ⟨by simp [f1], by simp [f6], by simp [f12], by simp [f13], by simp [f14], by simp [-splice, f1, f6, f8, f12, f13, f14, b_b7, ld_97_0_97], by simp [-splice, f1, f6, f8, f12, f13, f14, b_b7, ld_97_0_97]⟩
    clear f1 f6 f8 f12 f13 f14 b_b7 l_b7
    rintro t H n ⟨f1, f6, f12, f13, f14, f19, f20⟩
    obtain ⟨x8, hx8, h⟩ := bnd h
    refine Stk.cv (g := 65) (args := [.ssl (encs c97 a1) a1.length false, .agg (c97 x6)]) (args' := [.ssl (encs c97 a1) a1.length false, .agg (c97 x6)]) (v := .tup [.ssl (encs c97 x8.1) x8.1.length false, .sc (.bool x8.2)]) [] (ok_poly_scaled F _ _ _ hx8) (by simp [f1, f6, f12, f13, f14, f19, f20]) rfl rfl (by simp [f1, f6, f12, f13, f14, f19, f20]) (.cons (.free (freeL_encs fr97 _)) (.cons (.free (fr97 _)) (.nil))) (.inl ⟨rfl, by simp [free, freeL, freeL_encs fr97]⟩) (fun t' ht' => ?_)
    refine Stk.gen (fun t H n => t 1 = .ssl (encs c97 a1) a1.length false ∧ t 6 = .ssl (encs c97 v1) v1.length false ∧ t 12 = .ssl (encs c97 a0) a0.length false ∧ t 13 = .sc (.int .i64 (a0.length : Int)) ∧ t 14 = .sc (.int .i64 v2) ∧ t 21 = .tup [.ssl (encs c97 x8.1) x8.1.length false, .sc (.bool x8.2)]) ⟨by simp [ht', f1], by simp [ht', f6], by simp [ht', f12], by simp [ht', f13], by simp [ht', f14], by simp [ht']⟩ ?_
    clear f1 f6 f12 f13 f14 f19 f20 ht' t'
    rintro t H n ⟨f1, f6, f12, f13, f14, f21⟩
    refine Stk.run 5 (fun t H n => t 1 = .ssl (encs c97 a1) a1.length false ∧ t 6 = .ssl (encs c97 v1) v1.length false ∧ t 9 = .ssl (encs c97 x8.1) x8.1.length false ∧ t 10 = .sc (.bool x8.2) ∧ t 12 = .ssl (encs c97 a0) a0.length false ∧ t 13 = .sc (.int .i64 (a0.length : Int)) ∧ t 14 = .sc (.int .i64 v2)) (fun J hJ => ?_) ?_
    · simp [-splice, f1, f6, f12, f13, f14, f21]
      exact hJ _ _ _ ⟨by simp [f1], by simp [f6], by simp [-splice, f1, f6, f12, f13, f14, f21], by simp [-splice, f1, f6, f12, f13, f14, f21], by simp [f12], by simp [f13], by simp [f14]⟩
    clear f1 f6 f12 f13 f14 f21
    rintro t H n ⟨f1, f6, f9, f10, f12, f13, f14⟩
    refine Stk.on ?_
    refine Stk.sq ?_
    refine Stk.sq ?_
    refine Stk.rg ?_
    refine Stk.run 2 (fun t H n => t 1 = .ssl (encs c97 a1) a1.length false ∧ t 6 = .ssl (encs c97 v1) v1.length false ∧ t 9 = .ssl (encs c97 x8.1) x8.1.length false ∧ t 12 = .ssl (encs c97 a0) a0.length false ∧ t 13 = .sc (.int .i64 (a0.length : Int)) ∧ t 14 = .sc (.int .i64 v2) ∧ t 25 = .sc (.bool (!x8.2))) (fun J hJ => ?_) ?_
    · simp [-splice, f1, f6, f9, f10, f12, f13, f14]
      exact hJ _ _ _ ⟨by simp [f1], by simp [f6], by simp [f9], by simp [f12], by simp [f13], by simp [f14], by simp [-splice, f1, f6, f9, f10, f12, f13, f14]⟩
    clear f1 f6 f9 f10 f12 f13 f14
    rintro t H n ⟨f1, f6, f9, f12, f13, f14, f25⟩
    refine Stk.on ?_
    refine Stk.cond (!x8.2) (by exact f25) (fun hb9 => ?_) (fun hb9 => ?_)
    · have h := cT hb9 h
      refine Stk.sq ?_
      refine Stk.rg ?_
      refine Stk.run 1 (fun t H n => t 4 = .sc (.slice none 0 0)) (fun J hJ => ?_) ?_
      · simp [-splice, f1, f6, f9, f12, f13, f14, f25]
        exact hJ _ _ _ (by simp [-splice, f1, f6, f9, f12, f13, f14, f25])
      clear f1 f6 f9 f12 f13 f14 f25
      rintro t H n f4
      refine Stk.wk trivial 4 (.ssl (encs c97 ([] : (List api_Term))) ([] : (List api_Term)).length false) (by rw [f4]; exact .inr (.inr .nilS)) (fun t' ht' => ?_)
      refine Stk.gen (fun t H n => t 4 = .ssl (encs c97 ([] : (List api_Term))) ([] : (List api_Term)).length false) (by simp [ht', f4]) ?_
      clear f4 ht' t'
      rintro t H n f4
      refine Stk.run 1 (fun t H n => t 4 = .ssl (encs c97 ([] : (List api_Term))) ([] : (List api_Term)).length false ∧ t 5 = .sc (.int .i64 17)) (fun J hJ => ?_) ?_
      · simp [-splice, f4]
        exact hJ _ _ _ ⟨by simp [f4], by simp [-splice, f4]⟩
      clear f4
      rintro t H n ⟨f4, f5⟩
      refine Stk.on ?_
      refine Stk.rt ?_
      have hq := Option.some.inj h; subst hq
      exact (hr _ _ _ (.tup [.ssl (encs c97 ([] : (List api_Term))) ([] : (List api_Term)).length false, .sc (.int .i64 17)]) ([]) (by simp [f4, f5]) (.inr (.inr (.tup (.cons (.free (freeL_encs fr97 _)) (.cons (.free (rfl)) (.nil))))))).1
    · have h := cF hb9 h
      refine Stk.sk ?_
      refine Stk.sq ?_
      refine Stk.rg ?_
      refine Stk.run 1 (fun t H n => t 1 = .ssl (encs c97 a1) a1.length false ∧ t 6 = .ssl (encs c97 v1) v1.length false ∧ t 9 = .ssl (encs c97 x8.1) x8.1.length false ∧ t 12 = .ssl (encs c97 a0) a0.length false ∧ t 13 = .sc (.int .i64 (a0.length : Int)) ∧ t 14 = .sc (.int .i64 v2)) (fun J hJ => ?_) ?_
      · simp [-splice, f1, f6, f9, f12, f13, f14, f25]
        exact hJ _ _ _ ⟨by simp [f1], by simp [f6], by simp [f9], by simp [f12], by simp [f13], by simp [f14]⟩
      clear f1 f6 f9 f12 f13 f14 f25
      rintro t H n ⟨f1, f6, f9, f12, f13, f14⟩
      refine Stk.on ?_
      refine Stk.sq ?_
      refine Stk.rg ?_
      refine Stk.run 2 (fun t H n => t 1 = .ssl (encs c97 a1) a1.length false ∧ t 12 = .ssl (encs c97 a0) a0.length false ∧ t 13 = .sc (.int .i64 (a0.length : Int)) ∧ t 14 = .sc (.int .i64 v2) ∧ t 27 = .ssl (encs c97 v1) v1.length false ∧ t 28 = .ssl (encs c97 x8.1) x8.1.length false) (fun J hJ => ?_) ?_
      · simp [-splice, f1, f6, f9, f12, f13, f14]
        exact hJ _ _ _ ⟨by simp [f1], by simp [f12], by simp [f13], by simp [f14], by simp [-splice, f1, f6, f9, f12, f13, f14], by simp [-splice, f1, f6, f9, f12, f13, f14]⟩
      clear f1 f6 f9 f12 f13 f14
      rintro t H n ⟨f1, f12, f13, f14, f27, f28⟩
      obtain ⟨x10, hx10, h⟩ := bnd h
      refine Stk.cv (g := 20) (args := [.ssl (encs c97 v1) v1.length false, .ssl (encs c97 x8.1) x8.1.length false]) (args' := [.ssl (encs c97 v1) v1.length false, .ssl (encs c97 x8.1) x8.1.length false]) (v := .tup [.ssl (encs c97 x10.1) x10.1.length false, .sc (.int .i64 x10.2)]) [] (ok_poly_Add F _ _ _ hx10) (by simp [f1, f12, f13, f14, f27, f28]) rfl rfl (by simp [f1, f12, f13, f14, f27, f28]) (.cons (.free (freeL_encs fr97 _)) (.cons (.free (freeL_encs fr97 _)) (.nil))) (.inl ⟨rfl, by simp [free, freeL, freeL_encs fr97]⟩) (fun t' ht' => ?_)
      refine Stk.gen (fun t H n => t 1 = .ssl (encs c97 a1) a1.length false ∧ t 12 = .ssl (encs c97 a0) a0.length false ∧ t 13 = .sc (.int .i64 (a0.length : Int)) ∧ t 14 = .sc (.int .i64 v2) ∧ t 29 = .tup [.ssl (encs c97 x10.1) x10.1.length false, .sc (.int .i64 x10.2)]) ⟨by simp [ht', f1], by simp [ht', f12], by simp [ht', f13], by simp [ht', f14], by simp [ht']⟩ ?_
      clear f1 f12 f13 f14 f27 f28 ht' t'
      rintro t H n ⟨f1, f12, f13, f14, f29⟩
      refine Stk.run 5 (fun t H n => t 1 = .ssl (encs c97 a1) a1.length false ∧ t 6 = .ssl (encs c97 x10.1) x10.1.length false ∧ t 11 = .sc (.int .i64 x10.2) ∧ t 12 = .ssl (encs c97 a0) a0.length false ∧ t 13 = .sc (.int .i64 (a0.length : Int)) ∧ t 14 = .sc (.int .i64 v2)) (fun J hJ => ?_) ?_
      · simp [-splice, f1, f12, f13, f14, f29]
        exact hJ _ _ _ ⟨by simp [f1], by simp [-splice, f1, f12, f13, f14, f29], by simp [-splice, f1, f12, f13, f14, f29], by simp [f12], by simp [f13], by simp [f14]⟩
      clear f1 f12 f13 f14 f29
      rintro t H n ⟨f1, f6, f11, f12, f13, f14⟩
      refine Stk.on ?_
      refine Stk.sq ?_
      refine Stk.rg ?_
      refine Stk.run 2 (fun t H n => t 1 = .ssl (encs c97 a1) a1.length false ∧ t 6 = .ssl (encs c97 x10.1) x10.1.length false ∧ t 11 = .sc (.int .i64 x10.2) ∧ t 12 = .ssl (encs c97 a0) a0.length false ∧ t 13 = .sc (.int .i64 (a0.length : Int)) ∧ t 14 = .sc (.int .i64 v2) ∧ t 33 = .sc (.bool (x10.2 != 0))) (fun J hJ => ?_) ?_
      · simp [-splice, f1, f6, f11, f12, f13, f14]
        exact hJ _ _ _ ⟨by simp [f1], by simp [f6], by simp [f11], by simp [f12], by simp [f13], by simp [f14], by simp [-splice, f1, f6, f11, f12, f13, f14]⟩
      clear f1 f6 f11 f12 f13 f14
      rintro t H n ⟨f1, f6, f11, f12, f13, f14, f33⟩
      refine Stk.on ?_
      refine Stk.cond (x10.2 != 0) (by exact f33) (fun hb11 => ?_) (fun hb11 => ?_)
      · have h := cT hb11 h
        refine Stk.sq ?_
        refine Stk.rg ?_
        refine Stk.run 2 (fun t H n => t 4 = .sc (.slice none 0 0) ∧ t 34 = .sc (.int .i64 x10.2)) (fun J hJ => ?_) ?_
        · simp [-splice, f1, f6, f11, f12, f13, f14, f33]
          exact hJ _ _ _ ⟨by simp [-splice, f1, f6, f11, f12, f13, f14, f33], by simp [-splice, f1, f6, f11, f12, f13, f14, f33]⟩
        clear f1 f6 f11 f12 f13 f14 f33
        rintro t H n ⟨f4, f34⟩
        refine Stk.wk trivial 4 (.ssl (encs c97 ([] : (List api_Term))) ([] : (List api_Term)).length false) (by rw [f4]; exact .inr (.inr .nilS)) (fun t' ht' => ?_)
        refine Stk.gen (fun t H n => t 4 = .ssl (encs c97 ([] : (List api_Term))) ([] : (List api_Term)).length false ∧ t 34 = .sc (.int .i64 x10.2)) ⟨by simp [ht', f4], by simp [ht', f34]⟩ ?_
        clear f4 f34 ht' t'
        rintro t H n ⟨f4, f34⟩
        refine Stk.run 1 (fun t H n => t 4 = .ssl (encs c97 ([] : (List api_Term))) ([] : (List api_Term)).length false ∧ t 5 = .sc (.int .i64 x10.2)) (fun J hJ => ?_) ?_
        · simp [-splice, f4, f34]
          exact hJ _ _ _ ⟨by simp [f4], by simp [-splice, f4, f34]⟩
        clear f4 f34
        rintro t H n ⟨f4, f5⟩
        refine Stk.on ?_
        refine Stk.rt ?_
        have hq := Option.some.inj h; subst hq
        exact (hr _ _ _ (.tup [.ssl (encs c97 ([] : (List api_Term))) ([] : (List api_Term)).length false, .sc (.int .i64 x10.2)]) ([]) (by simp [f4, f5]) (.inr (.inr (.tup (.cons (.free (freeL_encs fr97 _)) (.cons (.free (rfl)) (.nil))))))).1
      · have h := cF hb11 h
        refine Stk.sk ?_
        refine Stk.bn ?_
        refine Stk.rg ?_
        refine Stk.run 2 (fun t H n => t 1 = .ssl (encs c97 a1) a1.length false ∧ t 6 = .ssl (encs c97 x10.1) x10.1.length false ∧ t 12 = .ssl (encs c97 a0) a0.length false ∧ t 13 = .sc (.int .i64 (a0.length : Int)) ∧ t 14 = .sc (.int .i64 (IntKind.i64.wrap (v2 + 1)))) (fun J hJ => ?_) ?_
        · simp [-splice, f1, f6, f11, f12, f13, f14, f33]
          exact hJ _ _ _ ⟨by simp [f1], by simp [f6], by simp [f12], by simp [f13], by simp [-splice, f1, f6, f11, f12, f13, f14, f33]⟩
        clear f1 f6 f11 f12 f13 f14 f33
        rintro t H n ⟨f1, f6, f12, f13, f14⟩
        refine Stk.on ?_
        exact Stk.ln μ (Nat.lt_succ_self _) (hJ1 _ _ _ _ ⟨x10.1, (IntKind.i64.wrap (v2 + 1)), h, f1, f6, f12, f13, f14⟩)
  · have h := cF hb5 h
    refine Stk.ex rfl ?_
    refine Stk.sq ?_
    refine Stk.rg ?_
    refine Stk.run 3 (fun t H n => t 4 = .ssl (encs c97 v1) v1.length false ∧ t 5 = .sc (.int .i64 0)) (fun J hJ => ?_) ?_
    · simp [-splice, f1, f6, f12, f13, f14, f15]
      exact hJ _ _ _ ⟨by simp [-splice, f1, f6, f12, f13, f14, f15], by simp [-splice, f1, f6, f12, f13, f14, f15]⟩
    clear f1 f6 f12 f13 f14 f15
    rintro t H n ⟨f4, f5⟩
    refine Stk.on ?_
    refine Stk.rt ?_
    have hq := Option.some.inj h; subst hq
    exact (hr _ _ _ (.tup [.ssl (encs c97 v1) v1.length false, .sc (.int .i64 0)]) ([]) (by simp [f4, f5]) (.inr (.inr (.tup (.cons (.free (freeL_encs fr97 _)) (.cons (.free (rfl)) (.nil))))))).1
theorem ok_poly_valued_1 (F : Nat) (a0 : Int) (a1 : (List Int)) (r : Int) (h : poly_valued_1 F a0 a1 = some r) : RunF Try.prog T.T 87 [.sc (.int .i64 a0), .sh (c45 a1)] (.sc (.int .i64 r)) := by
  rw [poly_valued_1] at h
  refine RunF.z Try.func87 rfl rfl rfl rfl rfl (fun C hr => ?_)
  refine Stk.gen (fun t H n => t 0 = .sc (.int .i64 a0) ∧ t 1 = .sh (c45 a1)) ⟨by simp, by simp⟩ ?_
  rintro t H n ⟨f0, f1⟩
  refine Stk.sq ?_
  refine Stk.rg ?_
  refine Stk.run 1 (fun t H n => t 0 = .sc (.int .i64 a0) ∧ t 1 = .sh (c45 a1)) (fun J hJ => ?_) ?_
  · simp [-splice, f0, f1]
    exact hJ _ _ _ ⟨by simp [f0], by simp [f1]⟩
  clear f0 f1
  rintro t H n ⟨f0, f1⟩
  refine Stk.on ?_
  refine Stk.sq ?_
  refine Stk.sq ?_
  refine Stk.rg ?_
  refine Stk.run 4 (fun t H n => t 0 = .sc (.int .i64 a0) ∧ t 1 = .sh (c45 a1) ∧ t 7 = .sc (.bool (decide ((a1.length : Int) ≤ a0)))) (fun J hJ => ?_) ?_
  · simp [-splice, f0, f1, pd45, ld_45_0_45]
    exact hJ _ _ _ ⟨by simp [f0], by simp [f1], by simp [-splice, f0, f1, pd45, ld_45_0_45]⟩
  clear f0 f1
  rintro t H n ⟨f0, f1, f7⟩
  refine Stk.on ?_
  refine Stk.cond (decide ((a1.length : Int) ≤ a0)) (by exact f7) (fun hb1 => ?_) (fun hb1 => ?_)
  · have h := cT hb1 h
    refine Stk.sq ?_
    refine Stk.rg ?_
    refine Stk.run 1 (fun t H n => t 3 = .sc (.int .i64 0)) (fun J hJ => ?_) ?_
    · simp [-splice, f0, f1, f7]
      exact hJ _ _ _ (by simp [-splice, f0, f1, f7])
    clear f0 f1 f7
    rintro t H n f3
    refine Stk.on ?_
    refine Stk.rt ?_
    have hq := Option.some.inj h; subst hq
    exact (hr _ _ _ (.sc (.int .i64 0)) ([]) (by simp [f3]) (.inr (.inr (.free (rfl))))).1
  · have h := cF hb1 h
    refine Stk.sk ?_
    refine Stk.sq ?_
    refine Stk.rg ?_
    obtain ⟨x2, hx2, h⟩ := bnd h
    obtain ⟨i0x2, i1x2, i2x2, _⟩ := idx_ok hx2
    have ex2_0_2 : partOf T.T 2 (encs c2 a1) (a0.toNat) = some (.sc (.int .i64 x2)) := by
        have e0 := part_elem0 (e := c2) (z := 1) (T := T.T) (ty := 2) T.t2 (by decide) (by decide) hx2 0 (by decide)
        (try simp only [Nat.mul_one, Nat.add_zero] at e0)
        exact e0.trans rfl
    refine Stk.run 6 (fun t H n => t 3 = .sc (.int .i64 (if x2 < 0 then 0 else x2))) (fun J hJ => ?_) ?_
    · simp [-splice, f0, f1, f7, pd45, ld_45_0_45, i0x2, i1x2, pd2, ex2_0_2]
      exact hJ _ _ _ (by simp [-splice, f0, f1, f7, pd45, ld_45_0_45, i0x2, i1x2, pd2, ex2_0_2])
    clear f0 f1 f7
    rintro t H n f3
    refine Stk.on ?_
    refine Stk.rt ?_
    have hq := Option.some.inj h; subst hq
    exact (hr _ _ _ (.sc (.int .i64 (if x2 < 0 then 0 else x2))) ([]) (by simp [f3]) (.inr (.inr (.free (rfl))))).1
end Go.Proofs.Ytfbkgjmpadknfaa.M
