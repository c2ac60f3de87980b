/-
  The functions come to them.
-/
import Derived.Test.YtfbkgjmpadknfaaGM
import Derived.Test.YtfbkgjmpadknfaaGW3
import Derived.Test.YtfbkgjmpadknfaaGW4
namespace Go.Proofs.Ytfbkgjmpadknfaa.M
open Go.Proofs.YtfbkgjmpadknfaaW.Ah Go.Proofs.Ytfbkgjmpadknfaa
set_option linter.unusedVariables false
set_option linter.unusedSimpArgs false
set_option maxRecDepth 8000
attribute [local simp] T.t2 T.t3 T.t4 T.t37 T.t95 T.t97 List.range List.range.loop
attribute [-simp] appendAV fillAV
theorem ok_R13_put (F : Nat) (a0 : (List api_Term)) (a1 : api_Term) (a2 : Bool) (r : (List api_Term)) (h : R13_put F a0 a1 a2 = some r) : RunF Try.prog T.T 71 [.ssl (encs c97 a0) a0.length false, .agg (c97 a1), .sc (.bool a2)] (.ssl (encs c97 r) r.length false) := by
  rw [R13_put] at h
  refine RunF.z Try.func71 rfl rfl rfl rfl rfl (fun C hr => ?_)
  refine Stk.gen (fun t H n => t 0 = .ssl (encs c97 a0) a0.length false ∧ t 1 = .agg (c97 a1) ∧ t 2 = .sc (.bool a2)) ⟨by simp, by simp, by simp⟩ ?_
  rintro t H n ⟨f0, f1, f2⟩
  refine Stk.sq ?_
  refine Stk.rg ?_
  refine Stk.om (mop_box T.t97 (cs := c97 a1) (by show partOk (t 1) = true; rw [f1]; rfl) (by show cellsOf (t 1) = _; rw [f1]; rfl)) (by simp [f0, f1, f2]) rfl (fun t' ht' => ?_)
  refine Stk.gen (fun t H n => ∃ b1, t 0 = .ssl (encs c97 a0) a0.length false ∧ t 2 = .sc (.bool a2) ∧ t 4 = .own b1 0 ∧ H b1 = some (.cells (c97 a1) 97) ∧ b1 < n) ⟨n, by simp [ht', f0], by simp [ht', f2], by simp [ht'], upd_same _ _ _, Nat.lt_succ_self _⟩ ?_
  clear f0 f1 f2 ht' t'
  rintro t H n ⟨b1, f0, f2, f4, b_b1, l_b1⟩
  refine Stk.run 1 (fun t H n => t 0 = .ssl (encs c97 a0) a0.length false ∧ t 2 = .sc (.bool a2) ∧ t 4 = .own b1 0 ∧ H b1 = some (.cells (c97 a1) 97) ∧ b1 < n) (fun J hJ => ?_) ?_
  · simp [-splice, f0, f2, f4, b_b1]
    exact hJ _ _ _ ⟨by simp [f0], by simp [f2], by simp [f4], b_b1, l_b1⟩
  clear f0 f2 f4 b_b1 l_b1
  rintro t H n ⟨f0, f2, f4, b_b1, l_b1⟩
  refine Stk.on ?_
  refine Stk.sq ?_
  refine Stk.rg ?_
  refine Stk.run 1 (fun t H n => t 0 = .ssl (encs c97 a0) a0.length false ∧ t 2 = .sc (.bool a2) ∧ t 4 = .own b1 0 ∧ t 7 = .sc (.slice none 0 0) ∧ H b1 = some (.cells (c97 a1) 97) ∧ b1 < n) (fun J hJ => ?_) ?_
  · simp [-splice, f0, f2, f4, b_b1]
    exact hJ _ _ _ ⟨by simp [f0], by simp [f2], by simp [f4], by simp [-splice, f0, f2, f4, b_b1], b_b1, l_b1⟩
  clear f0 f2 f4 b_b1 l_b1
  rintro t H n ⟨f0, f2, f4, f7, b_b1, l_b1⟩
  obtain ⟨o2, ho2⟩ : ∃ o : Option Nat, o = none := ⟨none, rfl⟩
  obtain ⟨co2, hco2⟩ : ∃ c : Option Nat, c = none := ⟨none, rfl⟩
  replace f7 : t 7 = slc o2 ([] : List api_Term).length co2 := by rw [ho2]; exact f7
  have b_o2 : OwnC H 97 13 c97 o2 co2 ([] : List api_Term) := by rw [ho2]; exact rfl
  have l_o2 : ∀ i, o2 = some i → i < n := by rw [ho2]; intro i e; cases e
  have d_b1_o2 : ∀ i, o2 = some i → i ≠ b1 := by rw [ho2]; intro i e; cases e
  refine Stk.on ?_
  refine Stk.sq ?_
  refine Stk.rg ?_
  refine Stk.run 1 (fun t H n => t 0 = .ssl (encs c97 a0) a0.length false ∧ t 2 = .sc (.bool a2) ∧ t 4 = .own b1 0 ∧ t 7 = slc o2 ([] : List api_Term).length co2 ∧ t 8 = .sc (.bool false) ∧ H b1 = some (.cells (c97 a1) 97) ∧ b1 < n ∧ OwnC H 97 13 c97 o2 co2 ([] : List api_Term) ∧ (∀ i, o2 = some i → i < n) ∧ (∀ i, o2 = some i → i ≠ b1)) (fun J hJ => ?_) ?_
  · simp [-splice, f0, f2, f4, f7, b_b1]
    exact hJ _ _ _ ⟨by simp [f0], by simp [f2], by simp [f4], by simp [f7], by simp [-splice, f0, f2, f4, f7, b_b1], b_b1, l_b1, b_o2, l_o2, d_b1_o2⟩
  clear f0 f2 f4 f7 b_b1 l_b1 b_o2 l_o2 d_b1_o2
  rintro t H n ⟨f0, f2, f4, f7, f8, b_b1, l_b1, b_o2, l_o2, d_b1_o2⟩
  refine Stk.on ?_
  refine Stk.sq ?_
  refine Stk.sq ?_
  refine Stk.rg ?_
  refine Stk.run 1 (fun t H n => t 0 = .ssl (encs c97 a0) a0.length false ∧ t 2 = .sc (.bool a2) ∧ t 4 = .own b1 0 ∧ t 7 = slc o2 ([] : List api_Term).length co2 ∧ t 8 = .sc (.bool false) ∧ t 9 = .sc (.int .i64 0) ∧ H b1 = some (.cells (c97 a1) 97) ∧ b1 < n ∧ OwnC H 97 13 c97 o2 co2 ([] : List api_Term) ∧ (∀ i, o2 = some i → i < n) ∧ (∀ i, o2 = some i → i ≠ b1)) (fun J hJ => ?_) ?_
  · simp [-splice, f0, f2, f4, f7, f8, b_b1]
    exact hJ _ _ _ ⟨by simp [f0], by simp [f2], by simp [f4], by simp [f7], by simp [f8], by simp [-splice, f0, f2, f4, f7, f8, b_b1], b_b1, l_b1, b_o2, l_o2, d_b1_o2⟩
  clear f0 f2 f4 f7 f8 b_b1 l_b1 b_o2 l_o2 d_b1_o2
  rintro t H n ⟨f0, f2, f4, f7, f8, f9, b_b1, l_b1, b_o2, l_o2, d_b1_o2⟩
  refine Stk.on ?_
  obtain ⟨K1, hK1, h⟩ := jnd h
  refine Stk.jn (fun t H n => ∃ o3 : Option Nat, ∃ co3 : Option Nat, ∃ v4 : List api_Term, ∃ v5 : Bool, K1 v4 v5 = some r ∧ t 4 = .own b1 0 ∧ t 7 = slc o3 v4.length co3 ∧ t 8 = .sc (.bool v5) ∧ H b1 = some (.cells (c97 a1) 97) ∧ b1 < n ∧ OwnC H 97 13 c97 o3 co3 v4 ∧ (∀ i, o3 = some i → i < n) ∧ (∀ i, o3 = some i → i ≠ b1)) trivial (fun J1 hJ1 => ?_) ?_
  · skip
    refine Stk.bk ?_
    refine Stk.lo (fun μ t H n => ∃ o6 : Option Nat, ∃ co6 : Option Nat, ∃ v7 : List api_Term, ∃ v8 : Bool, ∃ v9 : Int, R13_put_L0 F a0 a1 a2 K1 μ v7 v8 v9 = some r ∧ t 0 = .ssl (encs c97 a0) a0.length false ∧ t 2 = .sc (.bool a2) ∧ t 4 = .own b1 0 ∧ t 7 = slc o6 v7.length co6 ∧ t 8 = .sc (.bool v8) ∧ t 9 = .sc (.int .i64 v9) ∧ H b1 = some (.cells (c97 a1) 97) ∧ b1 < n ∧ OwnC H 97 13 c97 o6 co6 v7 ∧ (∀ i, o6 = some i → i < n) ∧ (∀ i, o6 = some i → i ≠ b1)) F ⟨o2, co2, ([] : List api_Term), false, 0, h, f0, f2, f4, f7, f8, f9, b_b1, l_b1, b_o2, l_o2, d_b1_o2⟩ ?_
    clear h f0 f2 f4 f7 f8 f9 b_b1 l_b1 b_o2 l_o2 d_b1_o2
    rintro J2 hJ2 μ t H n ⟨o6, co6, v7, v8, v9, h, f0, f2, f4, f7, f8, f9, b_b1, l_b1, b_o6, l_o6, d_b1_o6⟩
    cases μ with
    | zero => exact absurd h (by simp [R13_put_L0])
    | succ μ =>
    rw [R13_put_L0] at h
    refine Stk.sq ?_
    refine Stk.sq ?_
    refine Stk.rg ?_
    refine Stk.run 4 (fun t H n => t 0 = .ssl (encs c97 a0) a0.length false ∧ t 2 = .sc (.bool a2) ∧ t 4 = .own b1 0 ∧ t 7 = slc o6 v7.length co6 ∧ t 8 = .sc (.bool v8) ∧ t 9 = .sc (.int .i64 v9) ∧ t 14 = .sc (.bool (decide (v9 < (a0.length : Int)))) ∧ H b1 = some (.cells (c97 a1) 97) ∧ b1 < n ∧ OwnC H 97 13 c97 o6 co6 v7 ∧ (∀ i, o6 = some i → i < n) ∧ (∀ i, o6 = some i → i ≠ b1)) (fun J hJ => ?_) ?_
    · simp [-splice, f0, f2, f4, f7, f8, f9, b_b1]
      exact hJ _ _ _ ⟨by simp [f0], by simp [f2], by simp [f4], by simp [f7], by simp [f8], by simp [f9], by simp [-splice, f0, f2, f4, f7, f8, f9, b_b1], b_b1, l_b1, b_o6, l_o6, d_b1_o6⟩
    clear f0 f2 f4 f7 f8 f9 b_b1 l_b1 b_o6 l_o6 d_b1_o6
    rintro t H n ⟨f0, f2, f4, f7, f8, f9, f14, b_b1, l_b1, b_o6, l_o6, d_b1_o6⟩
    refine Stk.on ?_
    refine Stk.cond (decide (v9 < (a0.length : Int))) (by exact f14) (fun hb14 => ?_) (fun hb14 => ?_)
    · have h := cT hb14 h
      refine Stk.sk ?_
      refine Stk.sq ?_
      refine Stk.bk ?_
      refine Stk.sq ?_
      refine Stk.rg ?_
      obtain ⟨x15, hx15, h⟩ := bnd h
      obtain ⟨i0x15, i1x15, i2x15, _⟩ := idx_ok hx15
      have ex15_0_97 : partOf T.T 97 (encs c97 a0) (v9.toNat * 13) = some (.agg (c97 x15)) := by
          have e0 := part_elem0 (e := c97) (z := 13) (T := T.T) (ty := 97) T.t97 (by decide) (by decide) hx15 0 (by decide)
          (try simp only [Nat.mul_one, Nat.add_zero] at e0)
          exact e0.trans (ld_97_0_97 _)
      refine Stk.run 4 (fun t H n => t 0 = .ssl (encs c97 a0) a0.length false ∧ t 2 = .sc (.bool a2) ∧ t 4 = .own b1 0 ∧ t 7 = slc o6 v7.length co6 ∧ t 8 = .sc (.bool v8) ∧ t 9 = .sc (.int .i64 v9) ∧ t 20 = .agg (c97 x15) ∧ H b1 = some (.cells (c97 a1) 97) ∧ b1 < n ∧ OwnC H 97 13 c97 o6 co6 v7 ∧ (∀ i, o6 = some i → i < n) ∧ (∀ i, o6 = some i → i ≠ b1)) (fun J hJ => ?_) ?_
      · simp [-splice, f0, f2, f4, f7, f8, f9, f14, b_b1, i0x15, i1x15, pd97, ex15_0_97]
        exact hJ _ _ _ ⟨by simp [f0], by simp [f2], by simp [f4], by simp [f7], by simp [f8], by simp [f9], by simp [-splice, f0, f2, f4, f7, f8, f9, f14, b_b1, i0x15, i1x15, pd97, ex15_0_97], b_b1, l_b1, b_o6, l_o6, d_b1_o6⟩
      clear f0 f2 f4 f7 f8 f9 f14 b_b1 l_b1 b_o6 l_o6 d_b1_o6
      rintro t H n ⟨f0, f2, f4, f7, f8, f9, f20, b_b1, l_b1, b_o6, l_o6, d_b1_o6⟩
      refine Stk.om (mop_alloc T.t97 (cs := c97 (api_Term.mk (Arr.rep 12 0) 0)) rfl) (by simp [f0, f2, f4, f7, f8, f9, f20]) rfl (fun t' ht' => ?_)
      refine Stk.gen (fun t H n => ∃ b16, t 0 = .ssl (encs c97 a0) a0.length false ∧ t 2 = .sc (.bool a2) ∧ t 4 = .own b1 0 ∧ t 7 = slc o6 v7.length co6 ∧ t 8 = .sc (.bool v8) ∧ t 9 = .sc (.int .i64 v9) ∧ t 10 = .own b16 0 ∧ t 20 = .agg (c97 x15) ∧ H b1 = some (.cells (c97 a1) 97) ∧ b1 < n ∧ H b16 = some (.cells (c97 (api_Term.mk (Arr.rep 12 0) 0)) 97) ∧ b16 < n ∧ OwnC H 97 13 c97 o6 co6 v7 ∧ (∀ i, o6 = some i → i < n) ∧ b1 ≠ b16 ∧ (∀ i, o6 = some i → i ≠ b1) ∧ (∀ i, o6 = some i → i ≠ b16)) ⟨n, by simp [ht', f0], by simp [ht', f2], by simp [ht', f4], by simp [ht', f7], by simp [ht', f8], by simp [ht', f9], by simp [ht'], by simp [ht', f20], (upd_ne _ _ (Nat.ne_of_lt l_b1)).trans b_b1, Nat.lt_succ_of_lt l_b1, upd_same _ _ _, Nat.lt_succ_self _, b_o6.mono (fun i hi => upd_ne _ _ (Nat.ne_of_lt (l_o6 i hi))), fun i hi => Nat.lt_succ_of_lt (l_o6 i hi), Nat.ne_of_lt l_b1, d_b1_o6, fun i hi => Nat.ne_of_lt (l_o6 i hi)⟩ ?_
      clear f0 f2 f4 f7 f8 f9 f20 b_b1 l_b1 b_o6 l_o6 d_b1_o6 ht' t'
      rintro t H n ⟨b16, f0, f2, f4, f7, f8, f9, f10, f20, b_b1, l_b1, b_b16, l_b16, b_o6, l_o6, d_b1_b16, d_b1_o6, d_b16_o6⟩
      refine Stk.om (mop_store (z := 13) rfl f10 b_b16 f20 (len97 _) (by rw [len97]; decide) (ok97 _) (st_97_0_97 _ _)) (by simp [f0, f2, f4, f7, f8, f9, f10, f20]) rfl (fun t' ht' => ?_)
      refine Stk.gen (fun t H n => t 0 = .ssl (encs c97 a0) a0.length false ∧ t 2 = .sc (.bool a2) ∧ t 4 = .own b1 0 ∧ t 7 = slc o6 v7.length co6 ∧ t 8 = .sc (.bool v8) ∧ t 9 = .sc (.int .i64 v9) ∧ t 10 = .own b16 0 ∧ H b1 = some (.cells (c97 a1) 97) ∧ b1 < n ∧ H b16 = some (.cells (c97 x15) 97) ∧ b16 < n ∧ OwnC H 97 13 c97 o6 co6 v7 ∧ (∀ i, o6 = some i → i < n) ∧ b1 ≠ b16 ∧ (∀ i, o6 = some i → i ≠ b1) ∧ (∀ i, o6 = some i → i ≠ b16)) ⟨by simp [ht', f0], by simp [ht', f2], by simp [ht', f4], by simp [ht', f7], by simp [ht', f8], by simp [ht', f9], by simp [ht', f10], (upd_ne _ _ d_b1_b16).trans b_b1, l_b1, upd_same _ _ _, l_b16, b_o6.mono (fun i hi => upd_ne _ _ (d_b16_o6 i hi)), l_o6, d_b1_b16, d_b1_o6, d_b16_o6⟩ ?_
      clear f0 f2 f4 f7 f8 f9 f10 f20 b_b1 l_b1 b_b16 l_b16 b_o6 l_o6 d_b1_b16 d_b1_o6 d_b16_o6 ht' t'
      rintro t H n ⟨f0, f2, f4, f7, f8, f9, f10, b_b1, l_b1, b_b16, l_b16, b_o6, l_o6, d_b1_b16, d_b1_o6, d_b16_o6⟩
      refine Stk.on ?_
      refine Stk.sq ?_
      refine Stk.sq ?_
      refine Stk.rg ?_
      refine Stk.run 3 (fun t H n => t 0 = .ssl (encs c97 a0) a0.length false ∧ t 2 = .sc (.bool a2) ∧ t 4 = .own b1 0 ∧ t 7 = slc o6 v7.length co6 ∧ t 8 = .sc (.bool v8) ∧ t 9 = .sc (.int .i64 v9) ∧ t 10 = .own b16 0 ∧ t 23 = .sc (.bool (!v8)) ∧ H b1 = some (.cells (c97 a1) 97) ∧ b1 < n ∧ H b16 = some (.cells (c97 x15) 97) ∧ b16 < n ∧ OwnC H 97 13 c97 o6 co6 v7 ∧ (∀ i, o6 = some i → i < n) ∧ b1 ≠ b16 ∧ (∀ i, o6 = some i → i ≠ b1) ∧ (∀ i, o6 = some i → i ≠ b16)) (fun J hJ => ?_) ?_
      · simp [-splice, f0, f2, f4, f7, f8, f9, f10, b_b1, b_b16]
        exact hJ _ _ _ ⟨by simp [f0], by simp [f2], by simp [f4], by simp [f7], by simp [f8], by simp [f9], by simp [f10], by simp [-splice, f0, f2, f4, f7, f8, f9, f10, b_b1, b_b16], b_b1, l_b1, b_b16, l_b16, b_o6, l_o6, d_b1_b16, d_b1_o6, d_b16_o6⟩
      clear f0 f2 f4 f7 f8 f9 f10 b_b1 l_b1 b_b16 l_b16 b_o6 l_o6 d_b1_b16 d_b1_o6 d_b16_o6
      rintro t H n ⟨f0, f2, f4, f7, f8, f9, f10, f23, b_b1, l_b1, b_b16, l_b16, b_o6, l_o6, d_b1_b16, d_b1_o6, d_b16_o6⟩
      obtain ⟨K3, hK3, h⟩ := jnd h
      refine Stk.jo 6 (fun t H n => ∃ v17 : Bool, K3 v17 = some r ∧ t 0 = .ssl (encs c97 a0) a0.length false ∧ t 2 = .sc (.bool a2) ∧ t 4 = .own b1 0 ∧ t 7 = slc o6 v7.length co6 ∧ t 8 = .sc (.bool v8) ∧ t 9 = .sc (.int .i64 v9) ∧ t 10 = .own b16 0 ∧ t 29 = .sc (.bool v17) ∧ H b1 = some (.cells (c97 a1) 97) ∧ b1 < n ∧ H b16 = some (.cells (c97 x15) 97) ∧ b16 < n ∧ OwnC H 97 13 c97 o6 co6 v7 ∧ (∀ i, o6 = some i → i < n) ∧ b1 ≠ b16 ∧ (∀ i, o6 = some i → i ≠ b1) ∧ (∀ i, o6 = some i → i ≠ b16)) (fun J3 hJ3 => ?_) ?_
      · rcases Bool.eq_false_or_eq_true (!v8) with hb3 | hb3
        · rw [hb3] at f23
          replace h := cT hb3 h
          refine Stk.run 4 (fun t H n => t 0 = .ssl (encs c97 a0) a0.length false ∧ t 2 = .sc (.bool a2) ∧ t 4 = .own b1 0 ∧ t 7 = slc o6 v7.length co6 ∧ t 8 = .sc (.bool v8) ∧ t 9 = .sc (.int .i64 v9) ∧ t 10 = .own b16 0 ∧ t 23 = .sc (.bool true) ∧ t 25 = .agg (c95 a1.Exps) ∧ t 27 = .agg (c95 x15.Exps) ∧ H b1 = some (.cells (c97 a1) 97) ∧ b1 < n ∧ H b16 = some (.cells (c97 x15) 97) ∧ b16 < n ∧ OwnC H 97 13 c97 o6 co6 v7 ∧ (∀ i, o6 = some i → i < n) ∧ b1 ≠ b16 ∧ (∀ i, o6 = some i → i ≠ b1) ∧ (∀ i, o6 = some i → i ≠ b16)) (fun J hJ => ?_) ?_
          · simp [-splice, f0, f2, f4, f7, f8, f9, f10, f23, b_b1, b_b16, ld_97_0_95]
            exact hJ _ _ _ ⟨by simp [f0], by simp [f2], by simp [f4], by simp [f7], by simp [f8], by simp [f9], by simp [f10], by simp [f23], by simp [-splice, f0, f2, f4, f7, f8, f9, f10, f23, b_b1, b_b16, ld_97_0_95], by simp [-splice, f0, f2, f4, f7, f8, f9, f10, f23, b_b1, b_b16, ld_97_0_95], b_b1, l_b1, b_b16, l_b16, b_o6, l_o6, d_b1_b16, d_b1_o6, d_b16_o6⟩
          clear f0 f2 f4 f7 f8 f9 f10 f23 b_b1 l_b1 b_b16 l_b16 b_o6 l_o6 d_b1_b16 d_b1_o6 d_b16_o6
          rintro t H n ⟨f0, f2, f4, f7, f8, f9, f10, f23, f25, f27, b_b1, l_b1, b_b16, l_b16, b_o6, l_o6, d_b1_b16, d_b1_o6, d_b16_o6⟩
          obtain ⟨x18, hx18, h⟩ := bnd h
          refine Stk.cv (g := 66) (args := [.agg (c95 a1.Exps), .agg (c95 x15.Exps)]) (args' := [.agg (c95 a1.Exps), .agg (c95 x15.Exps)]) (v := .sc (.bool x18)) [] (ok_R13_less F _ _ _ hx18) (by simp [f0, f2, f4, f7, f8, f9, f10, f23, f25, f27]) rfl rfl (by simp [f0, f2, f4, f7, f8, f9, f10, f23, f25, f27]) (.cons (.free (fr95 _)) (.cons (.free (fr95 _)) (.nil))) (.inl ⟨rfl, rfl⟩) (fun t' ht' => ?_)
          refine Stk.gen (fun t H n => t 0 = .ssl (encs c97 a0) a0.length false ∧ t 2 = .sc (.bool a2) ∧ t 4 = .own b1 0 ∧ t 7 = slc o6 v7.length co6 ∧ t 8 = .sc (.bool v8) ∧ t 9 = .sc (.int .i64 v9) ∧ t 10 = .own b16 0 ∧ t 23 = .sc (.bool true) ∧ t 28 = .sc (.bool x18) ∧ H b1 = some (.cells (c97 a1) 97) ∧ b1 < n ∧ H b16 = some (.cells (c97 x15) 97) ∧ b16 < n ∧ OwnC H 97 13 c97 o6 co6 v7 ∧ (∀ i, o6 = some i → i < n) ∧ b1 ≠ b16 ∧ (∀ i, o6 = some i → i ≠ b1) ∧ (∀ i, o6 = some i → i ≠ b16)) ⟨by simp [ht', f0], by simp [ht', f2], by simp [ht', f4], by simp [ht', f7], by simp [ht', f8], by simp [ht', f9], by simp [ht', f10], by simp [ht', f23], by simp [ht'], b_b1, l_b1, b_b16, l_b16, b_o6, l_o6, d_b1_b16, d_b1_o6, d_b16_o6⟩ ?_
          clear f0 f2 f4 f7 f8 f9 f10 f23 f25 f27 b_b1 l_b1 b_b16 l_b16 b_o6 l_o6 d_b1_b16 d_b1_o6 d_b16_o6 ht' t'
          rintro t H n ⟨f0, f2, f4, f7, f8, f9, f10, f23, f28, b_b1, l_b1, b_b16, l_b16, b_o6, l_o6, d_b1_b16, d_b1_o6, d_b16_o6⟩
          refine Stk.run 1 (fun t H n => t 0 = .ssl (encs c97 a0) a0.length false ∧ t 2 = .sc (.bool a2) ∧ t 4 = .own b1 0 ∧ t 7 = slc o6 v7.length co6 ∧ t 8 = .sc (.bool v8) ∧ t 9 = .sc (.int .i64 v9) ∧ t 10 = .own b16 0 ∧ t 29 = .sc (.bool x18) ∧ H b1 = some (.cells (c97 a1) 97) ∧ b1 < n ∧ H b16 = some (.cells (c97 x15) 97) ∧ b16 < n ∧ OwnC H 97 13 c97 o6 co6 v7 ∧ (∀ i, o6 = some i → i < n) ∧ b1 ≠ b16 ∧ (∀ i, o6 = some i → i ≠ b1) ∧ (∀ i, o6 = some i → i ≠ b16)) (fun J hJ => ?_) ?_
          · simp [-splice, f0, f2, f4, f7, f8, f9, f10, f23, f28, b_b1, b_b16]
            exact hJ _ _ _ ⟨by simp [f0], by simp [f2], by simp [f4], by simp [f7], by simp [f8], by simp [f9], by simp [f10], by simp [-splice, f0, f2, f4, f7, f8, f9, f10, f23, f28, b_b1, b_b16], b_b1, l_b1, b_b16, l_b16, b_o6, l_o6, d_b1_b16, d_b1_o6, d_b16_o6⟩
          clear f0 f2 f4 f7 f8 f9 f10 f23 f28 b_b1 l_b1 b_b16 l_b16 b_o6 l_o6 d_b1_b16 d_b1_o6 d_b16_o6
          rintro t H n ⟨f0, f2, f4, f7, f8, f9, f10, f29, b_b1, l_b1, b_b16, l_b16, b_o6, l_o6, d_b1_b16, d_b1_o6, d_b16_o6⟩
          refine Stk.on ?_
          exact Stk.ln 0 (by decide) (hJ3 _ _ _ ⟨x18, h, f0, f2, f4, f7, f8, f9, f10, f29, b_b1, l_b1, b_b16, l_b16, b_o6, l_o6, d_b1_b16, d_b1_o6, d_b16_o6⟩)
        · rw [hb3] at f23
          replace h := cF hb3 h
          refine Stk.run 6 (fun t H n => t 0 = .ssl (encs c97 a0) a0.length false ∧ t 2 = .sc (.bool a2) ∧ t 4 = .own b1 0 ∧ t 7 = slc o6 v7.length co6 ∧ t 8 = .sc (.bool v8) ∧ t 9 = .sc (.int .i64 v9) ∧ t 10 = .own b16 0 ∧ t 29 = .sc (.bool false) ∧ H b1 = some (.cells (c97 a1) 97) ∧ b1 < n ∧ H b16 = some (.cells (c97 x15) 97) ∧ b16 < n ∧ OwnC H 97 13 c97 o6 co6 v7 ∧ (∀ i, o6 = some i → i < n) ∧ b1 ≠ b16 ∧ (∀ i, o6 = some i → i ≠ b1) ∧ (∀ i, o6 = some i → i ≠ b16)) (fun J hJ => ?_) ?_
          · simp [-splice, f0, f2, f4, f7, f8, f9, f10, f23, b_b1, b_b16]
            exact hJ _ _ _ ⟨by simp [f0], by simp [f2], by simp [f4], by simp [f7], by simp [f8], by simp [f9], by simp [f10], by simp [-splice, f0, f2, f4, f7, f8, f9, f10, f23, b_b1, b_b16], b_b1, l_b1, b_b16, l_b16, b_o6, l_o6, d_b1_b16, d_b1_o6, d_b16_o6⟩
          clear f0 f2 f4 f7 f8 f9 f10 f23 b_b1 l_b1 b_b16 l_b16 b_o6 l_o6 d_b1_b16 d_b1_o6 d_b16_o6
          rintro t H n ⟨f0, f2, f4, f7, f8, f9, f10, f29, b_b1, l_b1, b_b16, l_b16, b_o6, l_o6, d_b1_b16, d_b1_o6, d_b16_o6⟩
          refine Stk.on ?_
          exact Stk.ln 0 (by decide) (hJ3 _ _ _ ⟨false, h, f0, f2, f4, f7, f8, f9, f10, f29, b_b1, l_b1, b_b16, l_b16, b_o6, l_o6, d_b1_b16, d_b1_o6, d_b16_o6⟩)
      clear h f0 f2 f4 f7 f8 f9 f10 f23 b_b1 l_b1 b_b16 l_b16 b_o6 l_o6 d_b1_b16 d_b1_o6 d_b16_o6
      rintro t H n ⟨v17, h, f0, f2, f4, f7, f8, f9, f10, f29, b_b1, l_b1, b_b16, l_b16, b_o6, l_o6, d_b1_b16, d_b1_o6, d_b16_o6⟩
      subst hK3
      refine Stk.on ?_
      obtain ⟨K4, hK4, h⟩ := jnd h
      refine Stk.jn (fun t H n => ∃ o19 : Option Nat, ∃ co19 : Option Nat, ∃ v20 : List api_Term, ∃ v21 : Bool, K4 v20 v21 = some r ∧ t 0 = .ssl (encs c97 a0) a0.length false ∧ t 2 = .sc (.bool a2) ∧ t 4 = .own b1 0 ∧ t 7 = slc o19 v20.length co19 ∧ t 8 = .sc (.bool v21) ∧ t 9 = .sc (.int .i64 v9) ∧ t 10 = .own b16 0 ∧ H b1 = some (.cells (c97 a1) 97) ∧ b1 < n ∧ H b16 = some (.cells (c97 x15) 97) ∧ b16 < n ∧ OwnC H 97 13 c97 o19 co19 v20 ∧ (∀ i, o19 = some i → i < n) ∧ b1 ≠ b16 ∧ (∀ i, o19 = some i → i ≠ b1) ∧ (∀ i, o19 = some i → i ≠ b16)) trivial (fun J4 hJ4 => ?_) ?_
      · skip
        refine Stk.cond v17 (by exact f29) (fun hb22 => ?_) (fun hb22 => ?_)
        · have h := cT hb22 h
          refine Stk.sq ?_
          refine Stk.rg ?_
          refine Stk.run 2 (fun t H n => t 0 = .ssl (encs c97 a0) a0.length false ∧ t 2 = .sc (.bool a2) ∧ t 4 = .own b1 0 ∧ t 9 = .sc (.int .i64 v9) ∧ t 10 = .own b16 0 ∧ t 30 = slc o6 v7.length co6 ∧ t 31 = .agg (c97 a1) ∧ H b1 = some (.cells (c97 a1) 97) ∧ b1 < n ∧ H b16 = some (.cells (c97 x15) 97) ∧ b16 < n ∧ OwnC H 97 13 c97 o6 co6 v7 ∧ (∀ i, o6 = some i → i < n) ∧ b1 ≠ b16 ∧ (∀ i, o6 = some i → i ≠ b1) ∧ (∀ i, o6 = some i → i ≠ b16)) (fun J hJ => ?_) ?_
          · simp [-splice, f0, f2, f4, f7, f8, f9, f10, f29, b_b1, b_b16, ld_97_0_97]
            exact hJ _ _ _ ⟨by simp [f0], by simp [f2], by simp [f4], by simp [f9], by simp [f10], by simp [-splice, f0, f2, f4, f7, f8, f9, f10, f29, b_b1, b_b16, ld_97_0_97], by simp [-splice, f0, f2, f4, f7, f8, f9, f10, f29, b_b1, b_b16, ld_97_0_97], b_b1, l_b1, b_b16, l_b16, b_o6, l_o6, d_b1_b16, d_b1_o6, d_b16_o6⟩
          clear f0 f2 f4 f7 f8 f9 f10 f29 b_b1 l_b1 b_b16 l_b16 b_o6 l_o6 d_b1_b16 d_b1_o6 d_b16_o6
          rintro t H n ⟨f0, f2, f4, f9, f10, f30, f31, b_b1, l_b1, b_b16, l_b16, b_o6, l_o6, d_b1_b16, d_b1_o6, d_b16_o6⟩
          refine Stk.om (mop_buildN (c := c97) (z := 13) T.t37 rfl T.t97 rfl (by decide) rfl (by decide) [a1] rfl (.cons f31 rfl rfl rfl (len97 _) (by simp [length_encs]) (splice_next (c := c97) [] _ a1 rfl (by simp)) (.nil))) (by simp [f0, f2, f4, f9, f10, f30, f31]) rfl (fun t' ht' => ?_)
          refine Stk.gen (fun t H n => ∃ b23, t 0 = .ssl (encs c97 a0) a0.length false ∧ t 2 = .sc (.bool a2) ∧ t 4 = .own b1 0 ∧ t 9 = .sc (.int .i64 v9) ∧ t 10 = .own b16 0 ∧ t 30 = slc o6 v7.length co6 ∧ t 32 = .osl b23 0 ([a1] : List api_Term).length (some ([a1] : List api_Term).length) ∧ H b1 = some (.cells (c97 a1) 97) ∧ b1 < n ∧ H b16 = some (.cells (c97 x15) 97) ∧ b16 < n ∧ H b23 = some (.cells (encs c97 ([a1] : List api_Term)) 97) ∧ b23 < n ∧ OwnC H 97 13 c97 o6 co6 v7 ∧ (∀ i, o6 = some i → i < n) ∧ b1 ≠ b16 ∧ b1 ≠ b23 ∧ b16 ≠ b23 ∧ (∀ i, o6 = some i → i ≠ b1) ∧ (∀ i, o6 = some i → i ≠ b16) ∧ (∀ i, o6 = some i → i ≠ b23)) ⟨n, by simp [ht', f0], by simp [ht', f2], by simp [ht', f4], by simp [ht', f9], by simp [ht', f10], by simp [ht', f30], by simp [ht'], (upd_ne _ _ (Nat.ne_of_lt l_b1)).trans b_b1, Nat.lt_succ_of_lt l_b1, (upd_ne _ _ (Nat.ne_of_lt l_b16)).trans b_b16, Nat.lt_succ_of_lt l_b16, upd_same _ _ _, Nat.lt_succ_self _, b_o6.mono (fun i hi => upd_ne _ _ (Nat.ne_of_lt (l_o6 i hi))), fun i hi => Nat.lt_succ_of_lt (l_o6 i hi), d_b1_b16, Nat.ne_of_lt l_b1, Nat.ne_of_lt l_b16, d_b1_o6, d_b16_o6, fun i hi => Nat.ne_of_lt (l_o6 i hi)⟩ ?_
          clear f0 f2 f4 f9 f10 f30 f31 b_b1 l_b1 b_b16 l_b16 b_o6 l_o6 d_b1_b16 d_b1_o6 d_b16_o6 ht' t'
          rintro t H n ⟨b23, f0, f2, f4, f9, f10, f30, f32, b_b1, l_b1, b_b16, l_b16, b_b23, l_b23, b_o6, l_o6, d_b1_b16, d_b1_b23, d_b16_b23, d_b1_o6, d_b16_o6, d_b23_o6⟩
          obtain ⟨x24, hx24, h⟩ := bnd h
          obtain ⟨r1x24, r2x24, r3x24⟩ := appM_ok hx24
          obtain ⟨o25, co25, H9, n9, e9, w9, le9, fr9, kp9⟩ := append_ownC (e := c97) (z := 13) (st := 37) T.t37 rfl T.t97 rfl (by decide) rfl (by decide) b_o6 l_o6 (y := .osl b23 0 ([a1] : List api_Term).length (some ([a1] : List api_Term).length)) ([a1] : List api_Term) (elems_row b_b23 _) (all_encs ok97 _) r1x24 r2x24
          rw [r3x24] at e9 w9
          refine Stk.om ((mop_append T.t37 rfl).trans (by rw [show ev t (.tmp 30) = t 30 from rfl, f30]; rw [show ev t (.tmp 32) = t 32 from rfl, f32];  exact e9)) (by simp [f0, f2, f4, f9, f10, f30, f32]) rfl (fun t' ht' => ?_)
          refine Stk.gen (fun t H n => t 0 = .ssl (encs c97 a0) a0.length false ∧ t 2 = .sc (.bool a2) ∧ t 4 = .own b1 0 ∧ t 9 = .sc (.int .i64 v9) ∧ t 10 = .own b16 0 ∧ t 33 = slc o25 x24.length co25 ∧ H b1 = some (.cells (c97 a1) 97) ∧ b1 < n ∧ H b16 = some (.cells (c97 x15) 97) ∧ b16 < n ∧ OwnC H 97 13 c97 o25 co25 x24 ∧ (∀ i, o25 = some i → i < n) ∧ b1 ≠ b16 ∧ (∀ i, o25 = some i → i ≠ b1) ∧ (∀ i, o25 = some i → i ≠ b16)) ⟨by simp [ht', f0], by simp [ht', f2], by simp [ht', f4], by simp [ht', f9], by simp [ht', f10], by simp [ht'], (kp9 _ l_b1 (fun e => d_b1_o6 _ e rfl)).trans b_b1, Nat.lt_of_lt_of_le l_b1 le9, (kp9 _ l_b16 (fun e => d_b16_o6 _ e rfl)).trans b_b16, Nat.lt_of_lt_of_le l_b16 le9, w9, fun i hi => (fr9 i hi).2, d_b1_b16, fun i hi e => by rcases (fr9 i hi).1 with g | g; exact d_b1_o6 i g e; have := l_b1; omega, fun i hi e => by rcases (fr9 i hi).1 with g | g; exact d_b16_o6 i g e; have := l_b16; omega⟩ ?_
          clear f0 f2 f4 f9 f10 f30 f32 b_b1 l_b1 b_b16 l_b16 b_b23 l_b23 b_o6 l_o6 d_b1_b16 d_b1_b23 d_b16_b23 d_b1_o6 d_b16_o6 d_b23_o6 ht' t'
          rintro t H n ⟨f0, f2, f4, f9, f10, f33, b_b1, l_b1, b_b16, l_b16, b_o25, l_o25, d_b1_b16, d_b1_o25, d_b16_o25⟩
          refine Stk.run 1 (fun t H n => t 0 = .ssl (encs c97 a0) a0.length false ∧ t 2 = .sc (.bool a2) ∧ t 4 = .own b1 0 ∧ t 7 = slc o25 x24.length co25 ∧ t 9 = .sc (.int .i64 v9) ∧ t 10 = .own b16 0 ∧ H b1 = some (.cells (c97 a1) 97) ∧ b1 < n ∧ H b16 = some (.cells (c97 x15) 97) ∧ b16 < n ∧ OwnC H 97 13 c97 o25 co25 x24 ∧ (∀ i, o25 = some i → i < n) ∧ b1 ≠ b16 ∧ (∀ i, o25 = some i → i ≠ b1) ∧ (∀ i, o25 = some i → i ≠ b16)) (fun J hJ => ?_) ?_
          · simp [-splice, f0, f2, f4, f9, f10, f33, b_b1, b_b16]
            exact hJ _ _ _ ⟨by simp [f0], by simp [f2], by simp [f4], by simp [-splice, f0, f2, f4, f9, f10, f33, b_b1, b_b16], by simp [f9], by simp [f10], b_b1, l_b1, b_b16, l_b16, b_o25, l_o25, d_b1_b16, d_b1_o25, d_b16_o25⟩
          clear f0 f2 f4 f9 f10 f33 b_b1 l_b1 b_b16 l_b16 b_o25 l_o25 d_b1_b16 d_b1_o25 d_b16_o25
          rintro t H n ⟨f0, f2, f4, f7, f9, f10, b_b1, l_b1, b_b16, l_b16, b_o25, l_o25, d_b1_b16, d_b1_o25, d_b16_o25⟩
          refine Stk.on ?_
          refine Stk.rg ?_
          refine Stk.run 1 (fun t H n => t 0 = .ssl (encs c97 a0) a0.length false ∧ t 2 = .sc (.bool a2) ∧ t 4 = .own b1 0 ∧ t 7 = slc o25 x24.length co25 ∧ t 8 = .sc (.bool true) ∧ t 9 = .sc (.int .i64 v9) ∧ t 10 = .own b16 0 ∧ H b1 = some (.cells (c97 a1) 97) ∧ b1 < n ∧ H b16 = some (.cells (c97 x15) 97) ∧ b16 < n ∧ OwnC H 97 13 c97 o25 co25 x24 ∧ (∀ i, o25 = some i → i < n) ∧ b1 ≠ b16 ∧ (∀ i, o25 = some i → i ≠ b1) ∧ (∀ i, o25 = some i → i ≠ b16)) (fun J hJ => ?_) ?_
          · simp [-splice, f0, f2, f4, f7, f9, f10, b_b1, b_b16]
            exact hJ _ _ _ ⟨by simp [f0], by simp [f2], by simp [f4], by simp [f7], by simp [-splice, f0, f2, f4, f7, f9, f10, b_b1, b_b16], by simp [f9], by simp [f10], b_b1, l_b1, b_b16, l_b16, b_o25, l_o25, d_b1_b16, d_b1_o25, d_b16_o25⟩
          clear f0 f2 f4 f7 f9 f10 b_b1 l_b1 b_b16 l_b16 b_o25 l_o25 d_b1_b16 d_b1_o25 d_b16_o25
          rintro t H n ⟨f0, f2, f4, f7, f8, f9, f10, b_b1, l_b1, b_b16, l_b16, b_o25, l_o25, d_b1_b16, d_b1_o25, d_b16_o25⟩
          refine Stk.on ?_
          exact Stk.ln 0 (by decide) (hJ4 _ _ _ ⟨o25, co25, x24, true, h, f0, f2, f4, f7, f8, f9, f10, b_b1, l_b1, b_b16, l_b16, b_o25, l_o25, d_b1_b16, d_b1_o25, d_b16_o25⟩)
        · have h := cF hb22 h
          refine Stk.sk ?_
          exact Stk.ln 0 (by decide) (hJ4 _ _ _ ⟨o6, co6, v7, v8, h, f0, f2, f4, f7, f8, f9, f10, b_b1, l_b1, b_b16, l_b16, b_o6, l_o6, d_b1_b16, d_b1_o6, d_b16_o6⟩)
      clear h f0 f2 f4 f7 f8 f9 f10 f29 b_b1 l_b1 b_b16 l_b16 b_o6 l_o6 d_b1_b16 d_b1_o6 d_b16_o6
      rintro t H n ⟨o19, co19, v20, v21, h, f0, f2, f4, f7, f8, f9, f10, b_b1, l_b1, b_b16, l_b16, b_o19, l_o19, d_b1_b16, d_b1_o19, d_b16_o19⟩
      subst hK4
      refine Stk.sq ?_
      refine Stk.sq ?_
      refine Stk.rg ?_
      refine Stk.run 5 (fun t H n => t 0 = .ssl (encs c97 a0) a0.length false ∧ t 2 = .sc (.bool a2) ∧ t 4 = .own b1 0 ∧ t 7 = slc o19 v20.length co19 ∧ t 8 = .sc (.bool v21) ∧ t 9 = .sc (.int .i64 v9) ∧ t 10 = .own b16 0 ∧ t 38 = .sc (.bool (x15.Exps.1 == a1.Exps.1)) ∧ H b1 = some (.cells (c97 a1) 97) ∧ b1 < n ∧ H b16 = some (.cells (c97 x15) 97) ∧ b16 < n ∧ OwnC H 97 13 c97 o19 co19 v20 ∧ (∀ i, o19 = some i → i < n) ∧ b1 ≠ b16 ∧ (∀ i, o19 = some i → i ≠ b1) ∧ (∀ i, o19 = some i → i ≠ b16)) (fun J hJ => ?_) ?_
      · simp [-splice, f0, f2, f4, f7, f8, f9, f10, b_b1, b_b16, ld_97_0_95, eqM95]
        exact hJ _ _ _ ⟨by simp [f0], by simp [f2], by simp [f4], by simp [f7], by simp [f8], by simp [f9], by simp [f10], by simp [-splice, f0, f2, f4, f7, f8, f9, f10, b_b1, b_b16, ld_97_0_95, eqM95], b_b1, l_b1, b_b16, l_b16, b_o19, l_o19, d_b1_b16, d_b1_o19, d_b16_o19⟩
      clear f0 f2 f4 f7 f8 f9 f10 b_b1 l_b1 b_b16 l_b16 b_o19 l_o19 d_b1_b16 d_b1_o19 d_b16_o19
      rintro t H n ⟨f0, f2, f4, f7, f8, f9, f10, f38, b_b1, l_b1, b_b16, l_b16, b_o19, l_o19, d_b1_b16, d_b1_o19, d_b16_o19⟩
      refine Stk.on ?_
      obtain ⟨K5, hK5, h⟩ := jnd h
      refine Stk.jn (fun t H n => ∃ v26 : Bool, ∃ v27 : api_Term, K5 v26 v27 = some r ∧ t 0 = .ssl (encs c97 a0) a0.length false ∧ t 2 = .sc (.bool a2) ∧ t 4 = .own b1 0 ∧ t 7 = slc o19 v20.length co19 ∧ t 8 = .sc (.bool v26) ∧ t 9 = .sc (.int .i64 v9) ∧ t 10 = .own b16 0 ∧ H b1 = some (.cells (c97 a1) 97) ∧ b1 < n ∧ H b16 = some (.cells (c97 v27) 97) ∧ b16 < n ∧ OwnC H 97 13 c97 o19 co19 v20 ∧ (∀ i, o19 = some i → i < n) ∧ b1 ≠ b16 ∧ (∀ i, o19 = some i → i ≠ b1) ∧ (∀ i, o19 = some i → i ≠ b16)) trivial (fun J5 hJ5 => ?_) ?_
      · skip
        refine Stk.cond (x15.Exps.1 == a1.Exps.1) (by exact f38) (fun hb28 => ?_) (fun hb28 => ?_)
        · have h := cT hb28 h
          refine Stk.sq ?_
          refine Stk.sq ?_
          refine Stk.rg ?_
          refine Stk.run 1 (fun t H n => t 0 = .ssl (encs c97 a0) a0.length false ∧ t 2 = .sc (.bool a2) ∧ t 4 = .own b1 0 ∧ t 7 = slc o19 v20.length co19 ∧ t 9 = .sc (.int .i64 v9) ∧ t 10 = .own b16 0 ∧ t 39 = .sc (.bool a2) ∧ H b1 = some (.cells (c97 a1) 97) ∧ b1 < n ∧ H b16 = some (.cells (c97 x15) 97) ∧ b16 < n ∧ OwnC H 97 13 c97 o19 co19 v20 ∧ (∀ i, o19 = some i → i < n) ∧ b1 ≠ b16 ∧ (∀ i, o19 = some i → i ≠ b1) ∧ (∀ i, o19 = some i → i ≠ b16)) (fun J hJ => ?_) ?_
          · simp [-splice, f0, f2, f4, f7, f8, f9, f10, f38, b_b1, b_b16]
            exact hJ _ _ _ ⟨by simp [f0], by simp [f2], by simp [f4], by simp [f7], by simp [f9], by simp [f10], by simp [-splice, f0, f2, f4, f7, f8, f9, f10, f38, b_b1, b_b16], b_b1, l_b1, b_b16, l_b16, b_o19, l_o19, d_b1_b16, d_b1_o19, d_b16_o19⟩
          clear f0 f2 f4 f7 f8 f9 f10 f38 b_b1 l_b1 b_b16 l_b16 b_o19 l_o19 d_b1_b16 d_b1_o19 d_b16_o19
          rintro t H n ⟨f0, f2, f4, f7, f9, f10, f39, b_b1, l_b1, b_b16, l_b16, b_o19, l_o19, d_b1_b16, d_b1_o19, d_b16_o19⟩
          refine Stk.on ?_
          refine Stk.cond a2 (by exact f39) (fun hb29 => ?_) (fun hb29 => ?_)
          · have h := cT hb29 h
            refine Stk.rg ?_
            refine Stk.run 6 (fun t H n => t 0 = .ssl (encs c97 a0) a0.length false ∧ t 2 = .sc (.bool a2) ∧ t 4 = .own b1 0 ∧ t 7 = slc o19 v20.length co19 ∧ t 9 = .sc (.int .i64 v9) ∧ t 10 = .own b16 0 ∧ t 44 = .sc (.int .i64 (IntKind.i64.wrap (x15.Coef + a1.Coef))) ∧ t 45 = .own b16 12 ∧ H b1 = some (.cells (c97 a1) 97) ∧ b1 < n ∧ H b16 = some (.cells (c97 x15) 97) ∧ b16 < n ∧ OwnC H 97 13 c97 o19 co19 v20 ∧ (∀ i, o19 = some i → i < n) ∧ b1 ≠ b16 ∧ (∀ i, o19 = some i → i ≠ b1) ∧ (∀ i, o19 = some i → i ≠ b16)) (fun J hJ => ?_) ?_
            · simp [-splice, f0, f2, f4, f7, f9, f10, f39, b_b1, b_b16, ld_97_12_2]
              exact hJ _ _ _ ⟨by simp [f0], by simp [f2], by simp [f4], by simp [f7], by simp [f9], by simp [f10], by simp [-splice, f0, f2, f4, f7, f9, f10, f39, b_b1, b_b16, ld_97_12_2], by simp [-splice, f0, f2, f4, f7, f9, f10, f39, b_b1, b_b16, ld_97_12_2], b_b1, l_b1, b_b16, l_b16, b_o19, l_o19, d_b1_b16, d_b1_o19, d_b16_o19⟩
            clear f0 f2 f4 f7 f9 f10 f39 b_b1 l_b1 b_b16 l_b16 b_o19 l_o19 d_b1_b16 d_b1_o19 d_b16_o19
            rintro t H n ⟨f0, f2, f4, f7, f9, f10, f44, f45, b_b1, l_b1, b_b16, l_b16, b_o19, l_o19, d_b1_b16, d_b1_o19, d_b16_o19⟩
            refine Stk.om (mop_store (z := 1) rfl f45 b_b16 f44 rfl (by rw [len97]; decide) rfl (st_97_12_2 _ _)) (by simp [f0, f2, f4, f7, f9, f10, f44, f45]) rfl (fun t' ht' => ?_)
            refine Stk.gen (fun t H n => t 0 = .ssl (encs c97 a0) a0.length false ∧ t 2 = .sc (.bool a2) ∧ t 4 = .own b1 0 ∧ t 7 = slc o19 v20.length co19 ∧ t 9 = .sc (.int .i64 v9) ∧ t 10 = .own b16 0 ∧ H b1 = some (.cells (c97 a1) 97) ∧ b1 < n ∧ H b16 = some (.cells (c97 ({ x15 with Coef := (IntKind.i64.wrap (x15.Coef + a1.Coef)) })) 97) ∧ b16 < n ∧ OwnC H 97 13 c97 o19 co19 v20 ∧ (∀ i, o19 = some i → i < n) ∧ b1 ≠ b16 ∧ (∀ i, o19 = some i → i ≠ b1) ∧ (∀ i, o19 = some i → i ≠ b16)) ⟨by simp [ht', f0], by simp [ht', f2], by simp [ht', f4], by simp [ht', f7], by simp [ht', f9], by simp [ht', f10], (upd_ne _ _ d_b1_b16).trans b_b1, l_b1, upd_same _ _ _, l_b16, b_o19.mono (fun i hi => upd_ne _ _ (d_b16_o19 i hi)), l_o19, d_b1_b16, d_b1_o19, d_b16_o19⟩ ?_
            clear f0 f2 f4 f7 f9 f10 f44 f45 b_b1 l_b1 b_b16 l_b16 b_o19 l_o19 d_b1_b16 d_b1_o19 d_b16_o19 ht' t'
            rintro t H n ⟨f0, f2, f4, f7, f9, f10, b_b1, l_b1, b_b16, l_b16, b_o19, l_o19, d_b1_b16, d_b1_o19, d_b16_o19⟩
            refine Stk.on ?_
            refine Stk.rg ?_
            refine Stk.run 1 (fun t H n => t 0 = .ssl (encs c97 a0) a0.length false ∧ t 2 = .sc (.bool a2) ∧ t 4 = .own b1 0 ∧ t 7 = slc o19 v20.length co19 ∧ t 8 = .sc (.bool true) ∧ t 9 = .sc (.int .i64 v9) ∧ t 10 = .own b16 0 ∧ H b1 = some (.cells (c97 a1) 97) ∧ b1 < n ∧ H b16 = some (.cells (c97 ({ x15 with Coef := (IntKind.i64.wrap (x15.Coef + a1.Coef)) })) 97) ∧ b16 < n ∧ OwnC H 97 13 c97 o19 co19 v20 ∧ (∀ i, o19 = some i → i < n) ∧ b1 ≠ b16 ∧ (∀ i, o19 = some i → i ≠ b1) ∧ (∀ i, o19 = some i → i ≠ b16)) (fun J hJ => ?_) ?_
            · simp [-splice, f0, f2, f4, f7, f9, f10, b_b1, b_b16]
              exact hJ _ _ _ ⟨by simp [f0], by simp [f2], by simp [f4], by simp [f7], by simp [-splice, f0, f2, f4, f7, f9, f10, b_b1, b_b16], by simp [f9], by simp [f10], b_b1, l_b1, b_b16, l_b16, b_o19, l_o19, d_b1_b16, d_b1_o19, d_b16_o19⟩
            clear f0 f2 f4 f7 f9 f10 b_b1 l_b1 b_b16 l_b16 b_o19 l_o19 d_b1_b16 d_b1_o19 d_b16_o19
            rintro t H n ⟨f0, f2, f4, f7, f8, f9, f10, b_b1, l_b1, b_b16, l_b16, b_o19, l_o19, d_b1_b16, d_b1_o19, d_b16_o19⟩
            refine Stk.on ?_
            exact Stk.ln 0 (by decide) (hJ5 _ _ _ ⟨true, ({ x15 with Coef := (IntKind.i64.wrap (x15.Coef + a1.Coef)) }), h, f0, f2, f4, f7, f8, f9, f10, b_b1, l_b1, b_b16, l_b16, b_o19, l_o19, d_b1_b16, d_b1_o19, d_b16_o19⟩)
          · have h := cF hb29 h
            refine Stk.rg ?_
            refine Stk.run 6 (fun t H n => t 0 = .ssl (encs c97 a0) a0.length false ∧ t 2 = .sc (.bool a2) ∧ t 4 = .own b1 0 ∧ t 7 = slc o19 v20.length co19 ∧ t 9 = .sc (.int .i64 v9) ∧ t 10 = .own b16 0 ∧ t 50 = .sc (.int .i64 (if x15.Coef < a1.Coef then a1.Coef else x15.Coef)) ∧ t 51 = .own b16 12 ∧ H b1 = some (.cells (c97 a1) 97) ∧ b1 < n ∧ H b16 = some (.cells (c97 x15) 97) ∧ b16 < n ∧ OwnC H 97 13 c97 o19 co19 v20 ∧ (∀ i, o19 = some i → i < n) ∧ b1 ≠ b16 ∧ (∀ i, o19 = some i → i ≠ b1) ∧ (∀ i, o19 = some i → i ≠ b16)) (fun J hJ => ?_) ?_
            · simp [-splice, f0, f2, f4, f7, f9, f10, f39, b_b1, b_b16, ld_97_12_2]
              exact hJ _ _ _ ⟨by simp [f0], by simp [f2], by simp [f4], by simp [f7], by simp [f9], by simp [f10], by simp [-splice, f0, f2, f4, f7, f9, f10, f39, b_b1, b_b16, ld_97_12_2], by simp [-splice, f0, f2, f4, f7, f9, f10, f39, b_b1, b_b16, ld_97_12_2], b_b1, l_b1, b_b16, l_b16, b_o19, l_o19, d_b1_b16, d_b1_o19, d_b16_o19⟩
            clear f0 f2 f4 f7 f9 f10 f39 b_b1 l_b1 b_b16 l_b16 b_o19 l_o19 d_b1_b16 d_b1_o19 d_b16_o19
            rintro t H n ⟨f0, f2, f4, f7, f9, f10, f50, f51, b_b1, l_b1, b_b16, l_b16, b_o19, l_o19, d_b1_b16, d_b1_o19, d_b16_o19⟩
            refine Stk.om (mop_store (z := 1) rfl f51 b_b16 f50 rfl (by rw [len97]; decide) rfl (st_97_12_2 _ _)) (by simp [f0, f2, f4, f7, f9, f10, f50, f51]) rfl (fun t' ht' => ?_)
            refine Stk.gen (fun t H n => t 0 = .ssl (encs c97 a0) a0.length false ∧ t 2 = .sc (.bool a2) ∧ t 4 = .own b1 0 ∧ t 7 = slc o19 v20.length co19 ∧ t 9 = .sc (.int .i64 v9) ∧ t 10 = .own b16 0 ∧ H b1 = some (.cells (c97 a1) 97) ∧ b1 < n ∧ H b16 = some (.cells (c97 ({ x15 with Coef := (if x15.Coef < a1.Coef then a1.Coef else x15.Coef) })) 97) ∧ b16 < n ∧ OwnC H 97 13 c97 o19 co19 v20 ∧ (∀ i, o19 = some i → i < n) ∧ b1 ≠ b16 ∧ (∀ i, o19 = some i → i ≠ b1) ∧ (∀ i, o19 = some i → i ≠ b16)) ⟨by simp [ht', f0], by simp [ht', f2], by simp [ht', f4], by simp [ht', f7], by simp [ht', f9], by simp [ht', f10], (upd_ne _ _ d_b1_b16).trans b_b1, l_b1, upd_same _ _ _, l_b16, b_o19.mono (fun i hi => upd_ne _ _ (d_b16_o19 i hi)), l_o19, d_b1_b16, d_b1_o19, d_b16_o19⟩ ?_
            clear f0 f2 f4 f7 f9 f10 f50 f51 b_b1 l_b1 b_b16 l_b16 b_o19 l_o19 d_b1_b16 d_b1_o19 d_b16_o19 ht' t'
            rintro t H n ⟨f0, f2, f4, f7, f9, f10, b_b1, l_b1, b_b16, l_b16, b_o19, l_o19, d_b1_b16, d_b1_o19, d_b16_o19⟩
            refine Stk.on ?_
            refine Stk.rg ?_
            refine Stk.run 1 (fun t H n => t 0 = .ssl (encs c97 a0) a0.length false ∧ t 2 = .sc (.bool a2) ∧ t 4 = .own b1 0 ∧ t 7 = slc o19 v20.length co19 ∧ t 8 = .sc (.bool true) ∧ t 9 = .sc (.int .i64 v9) ∧ t 10 = .own b16 0 ∧ H b1 = some (.cells (c97 a1) 97) ∧ b1 < n ∧ H b16 = some (.cells (c97 ({ x15 with Coef := (if x15.Coef < a1.Coef then a1.Coef else x15.Coef) })) 97) ∧ b16 < n ∧ OwnC H 97 13 c97 o19 co19 v20 ∧ (∀ i, o19 = some i → i < n) ∧ b1 ≠ b16 ∧ (∀ i, o19 = some i → i ≠ b1) ∧ (∀ i, o19 = some i → i ≠ b16)) (fun J hJ => ?_) ?_
            · simp [-splice, f0, f2, f4, f7, f9, f10, b_b1, b_b16]
              exact hJ _ _ _ ⟨by simp [f0], by simp [f2], by simp [f4], by simp [f7], by simp [-splice, f0, f2, f4, f7, f9, f10, b_b1, b_b16], by simp [f9], by simp [f10], b_b1, l_b1, b_b16, l_b16, b_o19, l_o19, d_b1_b16, d_b1_o19, d_b16_o19⟩
            clear f0 f2 f4 f7 f9 f10 b_b1 l_b1 b_b16 l_b16 b_o19 l_o19 d_b1_b16 d_b1_o19 d_b16_o19
            rintro t H n ⟨f0, f2, f4, f7, f8, f9, f10, b_b1, l_b1, b_b16, l_b16, b_o19, l_o19, d_b1_b16, d_b1_o19, d_b16_o19⟩
            refine Stk.on ?_
            exact Stk.ln 0 (by decide) (hJ5 _ _ _ ⟨true, ({ x15 with Coef := (if x15.Coef < a1.Coef then a1.Coef else x15.Coef) }), h, f0, f2, f4, f7, f8, f9, f10, b_b1, l_b1, b_b16, l_b16, b_o19, l_o19, d_b1_b16, d_b1_o19, d_b16_o19⟩)
        · have h := cF hb28 h
          refine Stk.sk ?_
          exact Stk.ln 0 (by decide) (hJ5 _ _ _ ⟨v21, x15, h, f0, f2, f4, f7, f8, f9, f10, b_b1, l_b1, b_b16, l_b16, b_o19, l_o19, d_b1_b16, d_b1_o19, d_b16_o19⟩)
      clear h f0 f2 f4 f7 f8 f9 f10 f38 b_b1 l_b1 b_b16 l_b16 b_o19 l_o19 d_b1_b16 d_b1_o19 d_b16_o19
      rintro t H n ⟨v26, v27, h, f0, f2, f4, f7, f8, f9, f10, b_b1, l_b1, b_b16, l_b16, b_o19, l_o19, d_b1_b16, d_b1_o19, d_b16_o19⟩
      subst hK5
      refine Stk.rg ?_
      refine Stk.run 2 (fun t H n => t 0 = .ssl (encs c97 a0) a0.length false ∧ t 2 = .sc (.bool a2) ∧ t 4 = .own b1 0 ∧ t 8 = .sc (.bool v26) ∧ t 9 = .sc (.int .i64 v9) ∧ t 52 = slc o19 v20.length co19 ∧ t 53 = .agg (c97 v27) ∧ H b1 = some (.cells (c97 a1) 97) ∧ b1 < n ∧ OwnC H 97 13 c97 o19 co19 v20 ∧ (∀ i, o19 = some i → i < n) ∧ (∀ i, o19 = some i → i ≠ b1)) (fun J hJ => ?_) ?_
      · simp [-splice, f0, f2, f4, f7, f8, f9, f10, b_b1, b_b16, ld_97_0_97]
        exact hJ _ _ _ ⟨by simp [f0], by simp [f2], by simp [f4], by simp [f8], by simp [f9], by simp [-splice, f0, f2, f4, f7, f8, f9, f10, b_b1, b_b16, ld_97_0_97], by simp [-splice, f0, f2, f4, f7, f8, f9, f10, b_b1, b_b16, ld_97_0_97], b_b1, l_b1, b_o19, l_o19, d_b1_o19⟩
      clear f0 f2 f4 f7 f8 f9 f10 b_b1 l_b1 b_b16 l_b16 b_o19 l_o19 d_b1_b16 d_b1_o19 d_b16_o19
      rintro t H n ⟨f0, f2, f4, f8, f9, f52, f53, b_b1, l_b1, b_o19, l_o19, d_b1_o19⟩
      refine Stk.om (mop_buildN (c := c97) (z := 13) T.t37 rfl T.t97 rfl (by decide) rfl (by decide) [v27] rfl (.cons f53 rfl rfl rfl (len97 _) (by simp [length_encs]) (splice_next (c := c97) [] _ v27 rfl (by simp)) (.nil))) (by simp [f0, f2, f4, f8, f9, f52, f53]) rfl (fun t' ht' => ?_)
      refine Stk.gen (fun t H n => ∃ b30, t 0 = .ssl (encs c97 a0) a0.length false ∧ t 2 = .sc (.bool a2) ∧ t 4 = .own b1 0 ∧ t 8 = .sc (.bool v26) ∧ t 9 = .sc (.int .i64 v9) ∧ t 52 = slc o19 v20.length co19 ∧ t 54 = .osl b30 0 ([v27] : List api_Term).length (some ([v27] : List api_Term).length) ∧ H b1 = some (.cells (c97 a1) 97) ∧ b1 < n ∧ H b30 = some (.cells (encs c97 ([v27] : List api_Term)) 97) ∧ b30 < n ∧ OwnC H 97 13 c97 o19 co19 v20 ∧ (∀ i, o19 = some i → i < n) ∧ b1 ≠ b30 ∧ (∀ i, o19 = some i → i ≠ b1) ∧ (∀ i, o19 = some i → i ≠ b30)) ⟨n, by simp [ht', f0], by simp [ht', f2], by simp [ht', f4], by simp [ht', f8], by simp [ht', f9], by simp [ht', f52], by simp [ht'], (upd_ne _ _ (Nat.ne_of_lt l_b1)).trans b_b1, Nat.lt_succ_of_lt l_b1, upd_same _ _ _, Nat.lt_succ_self _, b_o19.mono (fun i hi => upd_ne _ _ (Nat.ne_of_lt (l_o19 i hi))), fun i hi => Nat.lt_succ_of_lt (l_o19 i hi), Nat.ne_of_lt l_b1, d_b1_o19, fun i hi => Nat.ne_of_lt (l_o19 i hi)⟩ ?_
      clear f0 f2 f4 f8 f9 f52 f53 b_b1 l_b1 b_o19 l_o19 d_b1_o19 ht' t'
      rintro t H n ⟨b30, f0, f2, f4, f8, f9, f52, f54, b_b1, l_b1, b_b30, l_b30, b_o19, l_o19, d_b1_b30, d_b1_o19, d_b30_o19⟩
      obtain ⟨x31, hx31, h⟩ := bnd h
      obtain ⟨r1x31, r2x31, r3x31⟩ := appM_ok hx31
      obtain ⟨o32, co32, H9, n9, e9, w9, le9, fr9, kp9⟩ := append_ownC (e := c97) (z := 13) (st := 37) T.t37 rfl T.t97 rfl (by decide) rfl (by decide) b_o19 l_o19 (y := .osl b30 0 ([v27] : List api_Term).length (some ([v27] : List api_Term).length)) ([v27] : List api_Term) (elems_row b_b30 _) (all_encs ok97 _) r1x31 r2x31
      rw [r3x31] at e9 w9
      refine Stk.om ((mop_append T.t37 rfl).trans (by rw [show ev t (.tmp 52) = t 52 from rfl, f52]; rw [show ev t (.tmp 54) = t 54 from rfl, f54];  exact e9)) (by simp [f0, f2, f4, f8, f9, f52, f54]) rfl (fun t' ht' => ?_)
      refine Stk.gen (fun t H n => t 0 = .ssl (encs c97 a0) a0.length false ∧ t 2 = .sc (.bool a2) ∧ t 4 = .own b1 0 ∧ t 8 = .sc (.bool v26) ∧ t 9 = .sc (.int .i64 v9) ∧ t 55 = slc o32 x31.length co32 ∧ H b1 = some (.cells (c97 a1) 97) ∧ b1 < n ∧ OwnC H 97 13 c97 o32 co32 x31 ∧ (∀ i, o32 = some i → i < n) ∧ (∀ i, o32 = some i → i ≠ b1)) ⟨by simp [ht', f0], by simp [ht', f2], by simp [ht', f4], by simp [ht', f8], by simp [ht', f9], by simp [ht'], (kp9 _ l_b1 (fun e => d_b1_o19 _ e rfl)).trans b_b1, Nat.lt_of_lt_of_le l_b1 le9, w9, fun i hi => (fr9 i hi).2, fun i hi e => by rcases (fr9 i hi).1 with g | g; exact d_b1_o19 i g e; have := l_b1; omega⟩ ?_
      clear f0 f2 f4 f8 f9 f52 f54 b_b1 l_b1 b_b30 l_b30 b_o19 l_o19 d_b1_b30 d_b1_o19 d_b30_o19 ht' t'
      rintro t H n ⟨f0, f2, f4, f8, f9, f55, b_b1, l_b1, b_o32, l_o32, d_b1_o32⟩
      refine Stk.run 1 (fun t H n => t 0 = .ssl (encs c97 a0) a0.length false ∧ t 2 = .sc (.bool a2) ∧ t 4 = .own b1 0 ∧ t 7 = slc o32 x31.length co32 ∧ t 8 = .sc (.bool v26) ∧ t 9 = .sc (.int .i64 v9) ∧ H b1 = some (.cells (c97 a1) 97) ∧ b1 < n ∧ OwnC H 97 13 c97 o32 co32 x31 ∧ (∀ i, o32 = some i → i < n) ∧ (∀ i, o32 = some i → i ≠ b1)) (fun J hJ => ?_) ?_
      · simp [-splice, f0, f2, f4, f8, f9, f55, b_b1]
        exact hJ _ _ _ ⟨by simp [f0], by simp [f2], by simp [f4], by simp [-splice, f0, f2, f4, f8, f9, f55, b_b1], by simp [f8], by simp [f9], b_b1, l_b1, b_o32, l_o32, d_b1_o32⟩
      clear f0 f2 f4 f8 f9 f55 b_b1 l_b1 b_o32 l_o32 d_b1_o32
      rintro t H n ⟨f0, f2, f4, f7, f8, f9, b_b1, l_b1, b_o32, l_o32, d_b1_o32⟩
      refine Stk.on ?_
      refine Stk.bn ?_
      refine Stk.rg ?_
      refine Stk.run 3 (fun t H n => t 0 = .ssl (encs c97 a0) a0.length false ∧ t 2 = .sc (.bool a2) ∧ t 4 = .own b1 0 ∧ t 7 = slc o32 x31.length co32 ∧ t 8 = .sc (.bool v26) ∧ t 9 = .sc (.int .i64 (IntKind.i64.wrap (v9 + 1))) ∧ H b1 = some (.cells (c97 a1) 97) ∧ b1 < n ∧ OwnC H 97 13 c97 o32 co32 x31 ∧ (∀ i, o32 = some i → i < n) ∧ (∀ i, o32 = some i → i ≠ b1)) (fun J hJ => ?_) ?_
      · simp [-splice, f0, f2, f4, f7, f8, f9, b_b1]
        exact hJ _ _ _ ⟨by simp [f0], by simp [f2], by simp [f4], by simp [f7], by simp [f8], by simp [-splice, f0, f2, f4, f7, f8, f9, b_b1], b_b1, l_b1, b_o32, l_o32, d_b1_o32⟩
      clear f0 f2 f4 f7 f8 f9 b_b1 l_b1 b_o32 l_o32 d_b1_o32
      rintro t H n ⟨f0, f2, f4, f7, f8, f9, b_b1, l_b1, b_o32, l_o32, d_b1_o32⟩
      refine Stk.on ?_
      exact Stk.ln μ (Nat.lt_succ_self _) (hJ2 _ _ _ _ ⟨o32, co32, x31, v26, (IntKind.i64.wrap (v9 + 1)), h, f0, f2, f4, f7, f8, f9, b_b1, l_b1, b_o32, l_o32, d_b1_o32⟩)
    · have h := cF hb14 h
      refine Stk.ex rfl ?_
      exact Stk.ln 0 (by decide) (hJ1 _ _ _ ⟨o6, co6, v7, v8, h, f4, f7, f8, b_b1, l_b1, b_o6, l_o6, d_b1_o6⟩)
  clear h f0 f2 f4 f7 f8 f9 b_b1 l_b1 b_o2 l_o2 d_b1_o2
  rintro t H n ⟨o3, co3, v4, v5, h, f4, f7, f8, b_b1, l_b1, b_o3, l_o3, d_b1_o3⟩
  subst hK1
  refine Stk.sq ?_
  refine Stk.sq ?_
  refine Stk.rg ?_
  refine Stk.run 2 (fun t H n => t 4 = .own b1 0 ∧ t 7 = slc o3 v4.length co3 ∧ t 57 = .sc (.bool (!v5)) ∧ H b1 = some (.cells (c97 a1) 97) ∧ b1 < n ∧ OwnC H 97 13 c97 o3 co3 v4 ∧ (∀ i, o3 = some i → i < n) ∧ (∀ i, o3 = some i → i ≠ b1)) (fun J hJ => ?_) ?_
  · simp [-splice, f4, f7, f8, b_b1]
    exact hJ _ _ _ ⟨by simp [f4], by simp [f7], by simp [-splice, f4, f7, f8, b_b1], b_b1, l_b1, b_o3, l_o3, d_b1_o3⟩
  clear f4 f7 f8 b_b1 l_b1 b_o3 l_o3 d_b1_o3
  rintro t H n ⟨f4, f7, f57, b_b1, l_b1, b_o3, l_o3, d_b1_o3⟩
  refine Stk.on ?_
  refine Stk.cond (!v5) (by exact f57) (fun hb33 => ?_) (fun hb33 => ?_)
  · have h := cT hb33 h
    refine Stk.rg ?_
    refine Stk.run 2 (fun t H n => t 58 = slc o3 v4.length co3 ∧ t 59 = .agg (c97 a1) ∧ OwnC H 97 13 c97 o3 co3 v4 ∧ (∀ i, o3 = some i → i < n)) (fun J hJ => ?_) ?_
    · simp [-splice, f4, f7, f57, b_b1, ld_97_0_97]
      exact hJ _ _ _ ⟨by simp [-splice, f4, f7, f57, b_b1, ld_97_0_97], by simp [-splice, f4, f7, f57, b_b1, ld_97_0_97], b_o3, l_o3⟩
    clear f4 f7 f57 b_b1 l_b1 b_o3 l_o3 d_b1_o3
    rintro t H n ⟨f58, f59, b_o3, l_o3⟩
    refine Stk.om (mop_buildN (c := c97) (z := 13) T.t37 rfl T.t97 rfl (by decide) rfl (by decide) [a1] rfl (.cons f59 rfl rfl rfl (len97 _) (by simp [length_encs]) (splice_next (c := c97) [] _ a1 rfl (by simp)) (.nil))) (by simp [f58, f59]) rfl (fun t' ht' => ?_)
    refine Stk.gen (fun t H n => ∃ b34, t 58 = slc o3 v4.length co3 ∧ t 60 = .osl b34 0 ([a1] : List api_Term).length (some ([a1] : List api_Term).length) ∧ H b34 = some (.cells (encs c97 ([a1] : List api_Term)) 97) ∧ b34 < n ∧ OwnC H 97 13 c97 o3 co3 v4 ∧ (∀ i, o3 = some i → i < n) ∧ (∀ i, o3 = some i → i ≠ b34)) ⟨n, by simp [ht', f58], by simp [ht'], upd_same _ _ _, Nat.lt_succ_self _, b_o3.mono (fun i hi => upd_ne _ _ (Nat.ne_of_lt (l_o3 i hi))), fun i hi => Nat.lt_succ_of_lt (l_o3 i hi), fun i hi => Nat.ne_of_lt (l_o3 i hi)⟩ ?_
    clear f58 f59 b_o3 l_o3 ht' t'
    rintro t H n ⟨b34, f58, f60, b_b34, l_b34, b_o3, l_o3, d_b34_o3⟩
    obtain ⟨x35, hx35, h⟩ := bnd h
    obtain ⟨r1x35, r2x35, r3x35⟩ := appM_ok hx35
    obtain ⟨o36, co36, H9, n9, e9, w9, le9, fr9, kp9⟩ := append_ownC (e := c97) (z := 13) (st := 37) T.t37 rfl T.t97 rfl (by decide) rfl (by decide) b_o3 l_o3 (y := .osl b34 0 ([a1] : List api_Term).length (some ([a1] : List api_Term).length)) ([a1] : List api_Term) (elems_row b_b34 _) (all_encs ok97 _) r1x35 r2x35
    rw [r3x35] at e9 w9
    refine Stk.om ((mop_append T.t37 rfl).trans (by rw [show ev t (.tmp 58) = t 58 from rfl, f58]; rw [show ev t (.tmp 60) = t 60 from rfl, f60];  exact e9)) (by simp [f58, f60]) rfl (fun t' ht' => ?_)
    refine Stk.gen (fun t H n => t 61 = slc o36 x35.length co36 ∧ OwnC H 97 13 c97 o36 co36 x35 ∧ (∀ i, o36 = some i → i < n)) ⟨by simp [ht'], w9, fun i hi => (fr9 i hi).2⟩ ?_
    clear f58 f60 b_b34 l_b34 b_o3 l_o3 d_b34_o3 ht' t'
    rintro t H n ⟨f61, b_o36, l_o36⟩
    refine Stk.run 1 (fun t H n => t 7 = slc o36 x35.length co36 ∧ OwnC H 97 13 c97 o36 co36 x35 ∧ (∀ i, o36 = some i → i < n)) (fun J hJ => ?_) ?_
    · simp [-splice, f61]
      exact hJ _ _ _ ⟨by simp [-splice, f61], b_o36, l_o36⟩
    clear f61 b_o36 l_o36
    rintro t H n ⟨f7, b_o36, l_o36⟩
    refine Stk.on ?_
    refine Stk.sq ?_
    refine Stk.rg ?_
    refine Stk.run 2 (fun t H n => t 6 = slc o36 x35.length co36 ∧ OwnC H 97 13 c97 o36 co36 x35 ∧ (∀ i, o36 = some i → i < n)) (fun J hJ => ?_) ?_
    · simp [-splice, f7]
      exact hJ _ _ _ ⟨by simp [-splice, f7], b_o36, l_o36⟩
    clear f7 b_o36 l_o36
    rintro t H n ⟨f6, b_o36, l_o36⟩
    refine Stk.wkf trivial o36.toList 6 (.ssl (encs c97 x35) x35.length false) (by rw [f6]; exact .inr (.inr (view_ownC fr97 b_o36 (fun i hi => by simp [hi])))) (fun t' H' ht' hH' => ?_)
    refine Stk.gen (fun t H n => t 6 = .ssl (encs c97 x35) x35.length false) (by simp [ht', f6]) ?_
    clear f6 b_o36 l_o36 hH' ht' t' H'
    rintro t H n f6
    refine Stk.on ?_
    refine Stk.rt ?_
    have hq := Option.some.inj h; subst hq
    exact (hr _ _ _ (.ssl (encs c97 x35) x35.length false) ([]) (by simp [f6]) (.inr (.inr (.free (freeL_encs fr97 _))))).1
  · have h := cF hb33 h
    refine Stk.sk ?_
    refine Stk.sq ?_
    refine Stk.rg ?_
    refine Stk.run 2 (fun t H n => t 6 = slc o3 v4.length co3 ∧ OwnC H 97 13 c97 o3 co3 v4 ∧ (∀ i, o3 = some i → i < n)) (fun J hJ => ?_) ?_
    · simp [-splice, f4, f7, f57, b_b1]
      exact hJ _ _ _ ⟨by simp [-splice, f4, f7, f57, b_b1], b_o3, l_o3⟩
    clear f4 f7 f57 b_b1 l_b1 b_o3 l_o3 d_b1_o3
    rintro t H n ⟨f6, b_o3, l_o3⟩
    refine Stk.wkf trivial o3.toList 6 (.ssl (encs c97 v4) v4.length false) (by rw [f6]; exact .inr (.inr (view_ownC fr97 b_o3 (fun i hi => by simp [hi])))) (fun t' H' ht' hH' => ?_)
    refine Stk.gen (fun t H n => t 6 = .ssl (encs c97 v4) v4.length false) (by simp [ht', f6]) ?_
    clear f6 b_o3 l_o3 hH' ht' t' H'
    rintro t H n f6
    refine Stk.on ?_
    refine Stk.rt ?_
    have hq := Option.some.inj h; subst hq
    exact (hr _ _ _ (.ssl (encs c97 v4) v4.length false) ([]) (by simp [f6]) (.inr (.inr (.free (freeL_encs fr97 _))))).1
theorem ok_R13_own (F : Nat) (a0 : (List api_Term)) (r : (List api_Term)) (h : R13_own F a0 = some r) : RunF Try.prog T.T 88 [.ssl (encs c97 a0) a0.length false] (.ssl (encs c97 r) r.length false) := by
  rw [R13_own] at h
  refine RunF.z Try.func88 rfl rfl rfl rfl rfl (fun C hr => ?_)
  refine Stk.gen (fun t H n => t 0 = .ssl (encs c97 a0) a0.length false) (by simp) ?_
  rintro t H n f0
  refine Stk.sq ?_
  refine Stk.rg ?_
  refine Stk.run 1 (fun t H n => t 0 = .ssl (encs c97 a0) a0.length false) (fun J hJ => ?_) ?_
  · simp [-splice, f0]
    exact hJ _ _ _ (by simp [f0])
  clear f0
  rintro t H n f0
  refine Stk.on ?_
  refine Stk.sq ?_
  refine Stk.rg ?_
  refine Stk.run 1 (fun t H n => t 0 = .ssl (encs c97 a0) a0.length false ∧ t 3 = .sc (.slice none 0 0)) (fun J hJ => ?_) ?_
  · simp [-splice, f0]
    exact hJ _ _ _ ⟨by simp [f0], by simp [-splice, f0]⟩
  clear f0
  rintro t H n ⟨f0, f3⟩
  obtain ⟨o1, ho1⟩ : ∃ o : Option Nat, o = none := ⟨none, rfl⟩
  obtain ⟨co1, hco1⟩ : ∃ c : Option Nat, c = none := ⟨none, rfl⟩
  replace f3 : t 3 = slc o1 ([] : List api_Term).length co1 := by rw [ho1]; exact f3
  have b_o1 : OwnC H 97 13 c97 o1 co1 ([] : List api_Term) := by rw [ho1]; exact rfl
  have l_o1 : ∀ i, o1 = some i → i < n := by rw [ho1]; intro i e; cases e
  refine Stk.on ?_
  refine Stk.sq ?_
  refine Stk.rg ?_
  refine Stk.run 2 (fun t H n => t 4 = slc o1 ([] : List api_Term).length co1 ∧ t 5 = .ssl (encs c97 a0) a0.length false ∧ OwnC H 97 13 c97 o1 co1 ([] : List api_Term) ∧ (∀ i, o1 = some i → i < n)) (fun J hJ => ?_) ?_
  · simp [-splice, f0, f3]
    exact hJ _ _ _ ⟨by simp [-splice, f0, f3], by simp [-splice, f0, f3], b_o1, l_o1⟩
  clear f0 f3 b_o1 l_o1
  rintro t H n ⟨f4, f5, b_o1, l_o1⟩
  obtain ⟨x2, hx2, h⟩ := bnd h
  obtain ⟨r1x2, r2x2, r3x2⟩ := appM_ok hx2
  obtain ⟨o3, co3, H9, n9, e9, w9, le9, fr9, kp9⟩ := append_ownC (e := c97) (z := 13) (st := 37) T.t37 rfl T.t97 rfl (by decide) rfl (by decide) b_o1 l_o1 (y := .ssl (encs c97 a0) a0.length false) a0 (elems_ssl) (all_encs ok97 _) r1x2 r2x2
  rw [r3x2] at e9 w9
  refine Stk.om ((mop_append T.t37 rfl).trans (by rw [show ev t (.tmp 4) = t 4 from rfl, f4]; rw [show ev t (.tmp 5) = t 5 from rfl, f5];  exact e9)) (by simp [f4, f5]) rfl (fun t' ht' => ?_)
  refine Stk.gen (fun t H n => t 6 = slc o3 x2.length co3 ∧ OwnC H 97 13 c97 o3 co3 x2 ∧ (∀ i, o3 = some i → i < n)) ⟨by simp [ht'], w9, fun i hi => (fr9 i hi).2⟩ ?_
  clear f4 f5 b_o1 l_o1 ht' t'
  rintro t H n ⟨f6, b_o3, l_o3⟩
  refine Stk.run 1 (fun t H n => t 2 = slc o3 x2.length co3 ∧ OwnC H 97 13 c97 o3 co3 x2 ∧ (∀ i, o3 = some i → i < n)) (fun J hJ => ?_) ?_
  · simp [-splice, f6]
    exact hJ _ _ _ ⟨by simp [-splice, f6], b_o3, l_o3⟩
  clear f6 b_o3 l_o3
  rintro t H n ⟨f2, b_o3, l_o3⟩
  refine Stk.wkf trivial o3.toList 2 (.ssl (encs c97 x2) x2.length false) (by rw [f2]; exact .inr (.inr (view_ownC fr97 b_o3 (fun i hi => by simp [hi])))) (fun t' H' ht' hH' => ?_)
  refine Stk.gen (fun t H n => t 2 = .ssl (encs c97 x2) x2.length false) (by simp [ht', f2]) ?_
  clear f2 b_o3 l_o3 hH' ht' t' H'
  rintro t H n f2
  refine Stk.on ?_
  refine Stk.rt ?_
  have hq := Option.some.inj h; subst hq
  exact (hr _ _ _ (.ssl (encs c97 x2) x2.length false) ([]) (by simp [f2]) (.inr (.inr (.free (freeL_encs fr97 _))))).1
theorem ok_R13_merge (F : Nat) (a0 : (List api_Term)) (a1 : (List api_Term)) (a2 : Bool) (r : ((List api_Term) × Int)) (h : R13_merge F a0 a1 a2 = some r) : RunF Try.prog T.T 70 [.ssl (encs c97 a0) a0.length false, .ssl (encs c97 a1) a1.length false, .sc (.bool a2)] (.tup [.ssl (encs c97 r.1) r.1.length false, .sc (.int .i64 r.2)]) := by
  rw [R13_merge] at h
  refine RunF.z Try.func70 rfl rfl rfl rfl rfl (fun C hr => ?_)
  refine Stk.gen (fun t H n => t 0 = .ssl (encs c97 a0) a0.length false ∧ t 1 = .ssl (encs c97 a1) a1.length false ∧ t 2 = .sc (.bool a2)) ⟨by simp, by simp, by simp⟩ ?_
  rintro t H n ⟨f0, f1, f2⟩
  refine Stk.sq ?_
  refine Stk.rg ?_
  refine Stk.run 1 (fun t H n => t 0 = .ssl (encs c97 a0) a0.length false ∧ t 1 = .ssl (encs c97 a1) a1.length false ∧ t 2 = .sc (.bool a2)) (fun J hJ => ?_) ?_
  · simp [-splice, f0, f1, f2]
    exact hJ _ _ _ ⟨by simp [f0], by simp [f1], by simp [f2]⟩
  clear f0 f1 f2
  rintro t H n ⟨f0, f1, f2⟩
  refine Stk.run 1 (fun t H n => t 0 = .ssl (encs c97 a0) a0.length false ∧ t 1 = .ssl (encs c97 a1) a1.length false ∧ t 2 = .sc (.bool a2)) (fun J hJ => ?_) ?_
  · simp [-splice, f0, f1, f2]
    exact hJ _ _ _ ⟨by simp [f0], by simp [f1], by simp [f2]⟩
  clear f0 f1 f2
  rintro t H n ⟨f0, f1, f2⟩
  refine Stk.on ?_
  refine Stk.sq ?_
  refine Stk.rg ?_
  refine Stk.run 2 (fun t H n => t 1 = .ssl (encs c97 a1) a1.length false ∧ t 2 = .sc (.bool a2) ∧ t 8 = .ssl (encs c97 a0) a0.length false) (fun J hJ => ?_) ?_
  · simp [-splice, f0, f1, f2]
    exact hJ _ _ _ ⟨by simp [f1], by simp [f2], by simp [-splice, f0, f1, f2]⟩
  clear f0 f1 f2
  rintro t H n ⟨f1, f2, f8⟩
  refine Stk.on ?_
  refine Stk.sq ?_
  refine Stk.sq ?_
  refine Stk.rg ?_
  refine Stk.run 1 (fun t H n => t 1 = .ssl (encs c97 a1) a1.length false ∧ t 2 = .sc (.bool a2) ∧ t 8 = .ssl (encs c97 a0) a0.length false ∧ t 9 = .sc (.int .i64 0)) (fun J hJ => ?_) ?_
  · simp [-splice, f1, f2, f8]
    exact hJ _ _ _ ⟨by simp [f1], by simp [f2], by simp [f8], by simp [-splice, f1, f2, f8]⟩
  clear f1 f2 f8
  rintro t H n ⟨f1, f2, f8, f9⟩
  refine Stk.on ?_
  obtain ⟨K1, hK1, h⟩ := jnd h
  refine Stk.jn (fun t H n => ∃ v1 : (List api_Term), K1 v1 = some r ∧ t 8 = .ssl (encs c97 v1) v1.length false) trivial (fun J1 hJ1 => ?_) ?_
  · skip
    refine Stk.bk ?_
    refine Stk.lo (fun μ t H n => ∃ v2 : (List api_Term), ∃ v3 : Int, R13_merge_L0 F a1 a2 K1 μ v2 v3 = some r ∧ t 1 = .ssl (encs c97 a1) a1.length false ∧ t 2 = .sc (.bool a2) ∧ t 8 = .ssl (encs c97 v2) v2.length false ∧ t 9 = .sc (.int .i64 v3)) F ⟨a0, 0, h, f1, f2, f8, f9⟩ ?_
    clear h f1 f2 f8 f9
    rintro J2 hJ2 μ t H n ⟨v2, v3, h, f1, f2, f8, f9⟩
    cases μ with
    | zero => exact absurd h (by simp [R13_merge_L0])
    | succ μ =>
    rw [R13_merge_L0] at h
    refine Stk.sq ?_
    refine Stk.sq ?_
    refine Stk.rg ?_
    refine Stk.run 4 (fun t H n => t 1 = .ssl (encs c97 a1) a1.length false ∧ t 2 = .sc (.bool a2) ∧ t 8 = .ssl (encs c97 v2) v2.length false ∧ t 9 = .sc (.int .i64 v3) ∧ t 14 = .sc (.bool (decide (v3 < (a1.length : Int))))) (fun J hJ => ?_) ?_
    · simp [-splice, f1, f2, f8, f9]
      exact hJ _ _ _ ⟨by simp [f1], by simp [f2], by simp [f8], by simp [f9], by simp [-splice, f1, f2, f8, f9]⟩
    clear f1 f2 f8 f9
    rintro t H n ⟨f1, f2, f8, f9, f14⟩
    refine Stk.on ?_
    refine Stk.cond (decide (v3 < (a1.length : Int))) (by exact f14) (fun hb6 => ?_) (fun hb6 => ?_)
    · have h := cT hb6 h
      refine Stk.sk ?_
      refine Stk.sq ?_
      refine Stk.bk ?_
      refine Stk.rg ?_
      obtain ⟨x7, hx7, h⟩ := bnd h
      obtain ⟨i0x7, i1x7, i2x7, _⟩ := idx_ok hx7
      have ex7_0_97 : partOf T.T 97 (encs c97 a1) (v3.toNat * 13) = some (.agg (c97 x7)) := by
          have e0 := part_elem0 (e := c97) (z := 13) (T := T.T) (ty := 97) T.t97 (by decide) (by decide) hx7 0 (by decide)
          (try simp only [Nat.mul_one, Nat.add_zero] at e0)
          exact e0.trans (ld_97_0_97 _)
      refine Stk.run 6 (fun t H n => t 1 = .ssl (encs c97 a1) a1.length false ∧ t 2 = .sc (.bool a2) ∧ t 9 = .sc (.int .i64 v3) ∧ t 17 = .ssl (encs c97 v2) v2.length false ∧ t 21 = .agg (c97 x7) ∧ t 22 = .sc (.bool a2)) (fun J hJ => ?_) ?_
      · simp [-splice, f1, f2, f8, f9, f14, i0x7, i1x7, pd97, ex7_0_97]
        exact hJ _ _ _ ⟨by simp [f1], by simp [f2], by simp [f9], by simp [-splice, f1, f2, f8, f9, f14, i0x7, i1x7, pd97, ex7_0_97], by simp [-splice, f1, f2, f8, f9, f14, i0x7, i1x7, pd97, ex7_0_97], by simp [-splice, f1, f2, f8, f9, f14, i0x7, i1x7, pd97, ex7_0_97]⟩
      clear f1 f2 f8 f9 f14
      rintro t H n ⟨f1, f2, f9, f17, f21, f22⟩
      obtain ⟨x8, hx8, h⟩ := bnd h
      refine Stk.cv (g := 71) (args := [.ssl (encs c97 v2) v2.length false, .agg (c97 x7), .sc (.bool a2)]) (args' := [.ssl (encs c97 v2) v2.length false, .agg (c97 x7), .sc (.bool a2)]) (v := .ssl (encs c97 x8) x8.length false) [] (ok_R13_put F _ _ _ _ hx8) (by simp [f1, f2, f9, f17, f21, f22]) rfl rfl (by simp [f1, f2, f9, f17, f21, f22]) (.cons (.free (freeL_encs fr97 _)) (.cons (.free (fr97 _)) (.cons (.free (rfl)) (.nil)))) (.inl ⟨rfl, freeL_encs fr97 _⟩) (fun t' ht' => ?_)
      refine Stk.gen (fun t H n => t 1 = .ssl (encs c97 a1) a1.length false ∧ t 2 = .sc (.bool a2) ∧ t 9 = .sc (.int .i64 v3) ∧ t 23 = .ssl (encs c97 x8) x8.length false) ⟨by simp [ht', f1], by simp [ht', f2], by simp [ht', f9], by simp [ht']⟩ ?_
      clear f1 f2 f9 f17 f21 f22 ht' t'
      rintro t H n ⟨f1, f2, f9, f23⟩
      refine Stk.run 1 (fun t H n => t 1 = .ssl (encs c97 a1) a1.length false ∧ t 2 = .sc (.bool a2) ∧ t 8 = .ssl (encs c97 x8) x8.length false ∧ t 9 = .sc (.int .i64 v3)) (fun J hJ => ?_) ?_
      · simp [-splice, f1, f2, f9, f23]
        exact hJ _ _ _ ⟨by simp [f1], by simp [f2], by simp [-splice, f1, f2, f9, f23], by simp [f9]⟩
      clear f1 f2 f9 f23
      rintro t H n ⟨f1, f2, f8, f9⟩
      refine Stk.on ?_
      refine Stk.bn ?_
      refine Stk.rg ?_
      refine Stk.run 3 (fun t H n => t 1 = .ssl (encs c97 a1) a1.length false ∧ t 2 = .sc (.bool a2) ∧ t 8 = .ssl (encs c97 x8) x8.length false ∧ t 9 = .sc (.int .i64 (IntKind.i64.wrap (v3 + 1)))) (fun J hJ => ?_) ?_
      · simp [-splice, f1, f2, f8, f9]
        exact hJ _ _ _ ⟨by simp [f1], by simp [f2], by simp [f8], by simp [-splice, f1, f2, f8, f9]⟩
      clear f1 f2 f8 f9
      rintro t H n ⟨f1, f2, f8, f9⟩
      refine Stk.on ?_
      exact Stk.ln μ (Nat.lt_succ_self _) (hJ2 _ _ _ _ ⟨x8, (IntKind.i64.wrap (v3 + 1)), h, f1, f2, f8, f9⟩)
    · have h := cF hb6 h
      refine Stk.ex rfl ?_
      exact Stk.ln 0 (by decide) (hJ1 _ _ _ ⟨v2, h, f8⟩)
  clear h f1 f2 f8 f9
  rintro t H n ⟨v1, h, f8⟩
  subst hK1
  refine Stk.sq ?_
  refine Stk.sq ?_
  refine Stk.rg ?_
  refine Stk.run 1 (fun t H n => t 8 = .ssl (encs c97 v1) v1.length false ∧ t 24 = .ssl (encs c97 v1) v1.length false) (fun J hJ => ?_) ?_
  · simp [-splice, f8]
    exact hJ _ _ _ ⟨by simp [f8], by simp [-splice, f8]⟩
  clear f8
  rintro t H n ⟨f8, f24⟩
  obtain ⟨x9, hx9, h⟩ := bnd h
  refine Stk.cv (g := 23) (args := [.ssl (encs c97 v1) v1.length false]) (args' := [.ssl (encs c97 v1) v1.length false]) (v := .sc (.bool x9)) [] (ok_R13_Fit F _ _ hx9) (by simp [f8, f24]) rfl rfl (by simp [f8, f24]) (.cons (.free (freeL_encs fr97 _)) (.nil)) (.inl ⟨rfl, rfl⟩) (fun t' ht' => ?_)
  refine Stk.gen (fun t H n => t 8 = .ssl (encs c97 v1) v1.length false ∧ t 25 = .sc (.bool x9)) ⟨by simp [ht', f8], by simp [ht']⟩ ?_
  clear f8 f24 ht' t'
  rintro t H n ⟨f8, f25⟩
  refine Stk.run 1 (fun t H n => t 8 = .ssl (encs c97 v1) v1.length false ∧ t 26 = .sc (.bool (!x9))) (fun J hJ => ?_) ?_
  · simp [-splice, f8, f25]
    exact hJ _ _ _ ⟨by simp [f8], by simp [-splice, f8, f25]⟩
  clear f8 f25
  rintro t H n ⟨f8, f26⟩
  refine Stk.on ?_
  refine Stk.cond (!x9) (by exact f26) (fun hb10 => ?_) (fun hb10 => ?_)
  · have h := cT hb10 h
    refine Stk.sq ?_
    refine Stk.rg ?_
    refine Stk.run 1 (fun t H n => t 6 = .sc (.slice none 0 0)) (fun J hJ => ?_) ?_
    · simp [-splice, f8, f26]
      exact hJ _ _ _ (by simp [-splice, f8, f26])
    clear f8 f26
    rintro t H n f6
    refine Stk.wk trivial 6 (.ssl (encs c97 ([] : (List api_Term))) ([] : (List api_Term)).length false) (by rw [f6]; exact .inr (.inr .nilS)) (fun t' ht' => ?_)
    refine Stk.gen (fun t H n => t 6 = .ssl (encs c97 ([] : (List api_Term))) ([] : (List api_Term)).length false) (by simp [ht', f6]) ?_
    clear f6 ht' t'
    rintro t H n f6
    refine Stk.run 1 (fun t H n => t 6 = .ssl (encs c97 ([] : (List api_Term))) ([] : (List api_Term)).length false ∧ t 7 = .sc (.int .i64 17)) (fun J hJ => ?_) ?_
    · simp [-splice, f6]
      exact hJ _ _ _ ⟨by simp [f6], by simp [-splice, f6]⟩
    clear f6
    rintro t H n ⟨f6, f7⟩
    refine Stk.on ?_
    refine Stk.rt ?_
    have hq := Option.some.inj h; subst hq
    exact (hr _ _ _ (.tup [.ssl (encs c97 ([] : (List api_Term))) ([] : (List api_Term)).length false, .sc (.int .i64 17)]) ([]) (by simp [f6, f7]) (.inr (.inr (.tup (.cons (.free (freeL_encs fr97 _)) (.cons (.free (rfl)) (.nil))))))).1
  · have h := cF hb10 h
    refine Stk.sk ?_
    refine Stk.sq ?_
    refine Stk.rg ?_
    refine Stk.run 1 (fun t H n => t 27 = .ssl (encs c97 v1) v1.length false) (fun J hJ => ?_) ?_
    · simp [-splice, f8, f26]
      exact hJ _ _ _ (by simp [-splice, f8, f26])
    clear f8 f26
    rintro t H n f27
    obtain ⟨x11, hx11, h⟩ := bnd h
    refine Stk.cv (g := 88) (args := [.ssl (encs c97 v1) v1.length false]) (args' := [.ssl (encs c97 v1) v1.length false]) (v := .ssl (encs c97 x11) x11.length false) [] (ok_R13_own F _ _ hx11) (by simp [f27]) rfl rfl (by simp [f27]) (.cons (.free (freeL_encs fr97 _)) (.nil)) (.inl ⟨rfl, freeL_encs fr97 _⟩) (fun t' ht' => ?_)
    refine Stk.gen (fun t H n => t 28 = .ssl (encs c97 x11) x11.length false) (by simp [ht']) ?_
    clear f27 ht' t'
    rintro t H n f28
    refine Stk.run 2 (fun t H n => t 6 = .ssl (encs c97 x11) x11.length false ∧ t 7 = .sc (.int .i64 0)) (fun J hJ => ?_) ?_
    · simp [-splice, f28]
      exact hJ _ _ _ ⟨by simp [-splice, f28], by simp [-splice, f28]⟩
    clear f28
    rintro t H n ⟨f6, f7⟩
    refine Stk.on ?_
    refine Stk.rt ?_
    have hq := Option.some.inj h; subst hq
    exact (hr _ _ _ (.tup [.ssl (encs c97 x11) x11.length false, .sc (.int .i64 0)]) ([]) (by simp [f6, f7]) (.inr (.inr (.tup (.cons (.free (freeL_encs fr97 _)) (.cons (.free (rfl)) (.nil))))))).1
theorem ok_R13_Add (F : Nat) (a0 : (List api_Term)) (a1 : (List api_Term)) (r : ((List api_Term) × Int)) (h : R13_Add F a0 a1 = some r) : RunF Try.prog T.T 27 [.ssl (encs c97 a0) a0.length false, .ssl (encs c97 a1) a1.length false] (.tup [.ssl (encs c97 r.1) r.1.length false, .sc (.int .i64 r.2)]) := by
  rw [R13_Add] at h
  refine RunF.z Try.func27 rfl rfl rfl rfl rfl (fun C hr => ?_)
  refine Stk.gen (fun t H n => t 0 = .ssl (encs c97 a0) a0.length false ∧ t 1 = .ssl (encs c97 a1) a1.length false) ⟨by simp, by simp⟩ ?_
  rintro t H n ⟨f0, f1⟩
  refine Stk.sq ?_
  refine Stk.rg ?_
  refine Stk.run 1 (fun t H n => t 0 = .ssl (encs c97 a0) a0.length false ∧ t 1 = .ssl (encs c97 a1) a1.length false) (fun J hJ => ?_) ?_
  · simp [-splice, f0, f1]
    exact hJ _ _ _ ⟨by simp [f0], by simp [f1]⟩
  clear f0 f1
  rintro t H n ⟨f0, f1⟩
  refine Stk.run 1 (fun t H n => t 0 = .ssl (encs c97 a0) a0.length false ∧ t 1 = .ssl (encs c97 a1) a1.length false) (fun J hJ => ?_) ?_
  · simp [-splice, f0, f1]
    exact hJ _ _ _ ⟨by simp [f0], by simp [f1]⟩
  clear f0 f1
  rintro t H n ⟨f0, f1⟩
  refine Stk.on ?_
  refine Stk.sq ?_
  refine Stk.rg ?_
  refine Stk.run 2 (fun t H n => t 6 = .ssl (encs c97 a0) a0.length false ∧ t 7 = .ssl (encs c97 a1) a1.length false) (fun J hJ => ?_) ?_
  · simp [-splice, f0, f1]
    exact hJ _ _ _ ⟨by simp [-splice, f0, f1], by simp [-splice, f0, f1]⟩
  clear f0 f1
  rintro t H n ⟨f6, f7⟩
  obtain ⟨x1, hx1, h⟩ := bnd h
  refine Stk.cv (g := 70) (args := [.ssl (encs c97 a0) a0.length false, .ssl (encs c97 a1) a1.length false, .sc (.bool true)]) (args' := [.ssl (encs c97 a0) a0.length false, .ssl (encs c97 a1) a1.length false, .sc (.bool true)]) (v := .tup [.ssl (encs c97 x1.1) x1.1.length false, .sc (.int .i64 x1.2)]) [] (ok_R13_merge F _ _ _ _ hx1) (by simp [f6, f7]) rfl rfl (by simp [f6, f7]) (.cons (.free (freeL_encs fr97 _)) (.cons (.free (freeL_encs fr97 _)) (.cons (.free (rfl)) (.nil)))) (.inl ⟨rfl, by simp [free, freeL, freeL_encs fr97]⟩) (fun t' ht' => ?_)
  refine Stk.gen (fun t H n => t 8 = .tup [.ssl (encs c97 x1.1) x1.1.length false, .sc (.int .i64 x1.2)]) (by simp [ht']) ?_
  clear f6 f7 ht' t'
  rintro t H n f8
  refine Stk.run 4 (fun t H n => t 4 = .ssl (encs c97 x1.1) x1.1.length false ∧ t 5 = .sc (.int .i64 x1.2)) (fun J hJ => ?_) ?_
  · simp [-splice, f8]
    exact hJ _ _ _ ⟨by simp [-splice, f8], by simp [-splice, f8]⟩
  clear f8
  rintro t H n ⟨f4, f5⟩
  refine Stk.on ?_
  refine Stk.rt ?_
  have hq := Option.some.inj h; subst hq
  exact (hr _ _ _ (.tup [.ssl (encs c97 x1.1) x1.1.length false, .sc (.int .i64 x1.2)]) ([]) (by simp [f4, f5]) (.inr (.inr (.tup (.cons (.free (freeL_encs fr97 _)) (.cons (.free (rfl)) (.nil))))))).1
end Go.Proofs.Ytfbkgjmpadknfaa.M
