/-
  The functions come to them.
-/
import Derived.Test.YtfbkgjmpadknfaaGM
import Derived.Test.YtfbkgjmpadknfaaGW4
import Derived.Test.YtfbkgjmpadknfaaGW10
namespace Go.Proofs.Ytfbkgjmpadknfaa.M
open Go.Proofs.YtfbkgjmpadknfaaW.Ah Go.Proofs.Ytfbkgjmpadknfaa
set_option linter.unusedVariables false
set_option linter.unusedSimpArgs false
set_option maxRecDepth 8000
attribute [local simp] T.t2 T.t3 T.t4 T.t5 T.t37 T.t95 T.t97 List.range List.range.loop
attribute [-simp] appendAV fillAV
theorem ok_R13_Mul (F : Nat) (a0 : (List api_Term)) (a1 : (List api_Term)) (r : ((List api_Term) × Int)) (h : R13_Mul F a0 a1 = some r) : RunF Try.prog T.T 28 [.ssl (encs c97 a0) a0.length false, .ssl (encs c97 a1) a1.length false] (.tup [.ssl (encs c97 r.1) r.1.length false, .sc (.int .i64 r.2)]) := by
  rw [R13_Mul] at h
  refine RunF.z Try.func28 rfl rfl rfl rfl rfl (fun C hr => ?_)
  refine Stk.gen (fun t H n => t 0 = .ssl (encs c97 a0) a0.length false ∧ t 1 = .ssl (encs c97 a1) a1.length false) ⟨by simp, by simp⟩ ?_
  rintro t H n ⟨f0, f1⟩
  refine Stk.sq ?_
  refine Stk.rg ?_
  refine Stk.run 1 (fun t H n => t 0 = .ssl (encs c97 a0) a0.length false ∧ t 1 = .ssl (encs c97 a1) a1.length false) (fun J hJ => ?_) ?_
  · simp [-splice, f0, f1]
    exact hJ _ _ _ ⟨by simp [f0], by simp [f1]⟩
  clear f0 f1
  rintro t H n ⟨f0, f1⟩
  refine Stk.run 1 (fun t H n => t 0 = .ssl (encs c97 a0) a0.length false ∧ t 1 = .ssl (encs c97 a1) a1.length false) (fun J hJ => ?_) ?_
  · simp [-splice, f0, f1]
    exact hJ _ _ _ ⟨by simp [f0], by simp [f1]⟩
  clear f0 f1
  rintro t H n ⟨f0, f1⟩
  refine Stk.on ?_
  refine Stk.sq ?_
  refine Stk.rg ?_
  refine Stk.run 1 (fun t H n => t 0 = .ssl (encs c97 a0) a0.length false ∧ t 1 = .ssl (encs c97 a1) a1.length false ∧ t 6 = .sc (.slice none 0 0)) (fun J hJ => ?_) ?_
  · simp [-splice, f0, f1]
    exact hJ _ _ _ ⟨by simp [f0], by simp [f1], by simp [-splice, f0, f1]⟩
  clear f0 f1
  rintro t H n ⟨f0, f1, f6⟩
  refine Stk.wk trivial 6 (.ssl (encs c97 ([] : (List api_Term))) ([] : (List api_Term)).length false) (by rw [f6]; exact .inr (.inr .nilS)) (fun t' ht' => ?_)
  refine Stk.gen (fun t H n => t 0 = .ssl (encs c97 a0) a0.length false ∧ t 1 = .ssl (encs c97 a1) a1.length false ∧ t 6 = .ssl (encs c97 ([] : (List api_Term))) ([] : (List api_Term)).length false) ⟨by simp [ht', f0], by simp [ht', f1], by simp [ht', f6]⟩ ?_
  clear f0 f1 f6 ht' t'
  rintro t H n ⟨f0, f1, f6⟩
  refine Stk.on ?_
  refine Stk.sq ?_
  refine Stk.sq ?_
  refine Stk.rg ?_
  refine Stk.run 1 (fun t H n => t 0 = .ssl (encs c97 a0) a0.length false ∧ t 1 = .ssl (encs c97 a1) a1.length false ∧ t 6 = .ssl (encs c97 ([] : (List api_Term))) ([] : (List api_Term)).length false ∧ t 7 = .sc (.int .i64 0)) (fun J hJ => ?_) ?_
  · simp [-splice, f0, f1, f6]
    exact hJ _ _ _ ⟨by simp [f0], by simp [f1], by simp [f6], by simp [-splice, f0, f1, f6]⟩
  clear f0 f1 f6
  rintro t H n ⟨f0, f1, f6, f7⟩
  refine Stk.on ?_
  refine Stk.bk ?_
  refine Stk.lo (fun μ t H n => ∃ v1 : (List api_Term), ∃ v2 : Int, R13_Mul_L0 F a0 a1 μ v1 v2 = some r ∧ t 0 = .ssl (encs c97 a0) a0.length false ∧ t 1 = .ssl (encs c97 a1) a1.length false ∧ t 6 = .ssl (encs c97 v1) v1.length false ∧ t 7 = .sc (.int .i64 v2)) F ⟨([] : (List api_Term)), 0, h, f0, f1, f6, f7⟩ ?_
  clear h f0 f1 f6 f7
  rintro J1 hJ1 μ t H n ⟨v1, v2, h, f0, f1, f6, f7⟩
  cases μ with
  | zero => exact absurd h (by simp [R13_Mul_L0])
  | succ μ =>
  rw [R13_Mul_L0] at h
  refine Stk.sq ?_
  refine Stk.sq ?_
  refine Stk.rg ?_
  refine Stk.run 4 (fun t H n => t 0 = .ssl (encs c97 a0) a0.length false ∧ t 1 = .ssl (encs c97 a1) a1.length false ∧ t 6 = .ssl (encs c97 v1) v1.length false ∧ t 7 = .sc (.int .i64 v2) ∧ t 14 = .sc (.bool (decide (v2 < (a0.length : Int))))) (fun J hJ => ?_) ?_
  · simp [-splice, f0, f1, f6, f7]
    exact hJ _ _ _ ⟨by simp [f0], by simp [f1], by simp [f6], by simp [f7], by simp [-splice, f0, f1, f6, f7]⟩
  clear f0 f1 f6 f7
  rintro t H n ⟨f0, f1, f6, f7, f14⟩
  refine Stk.on ?_
  refine Stk.cond (decide (v2 < (a0.length : Int))) (by exact f14) (fun hb5 => ?_) (fun hb5 => ?_)
  · have h := cT hb5 h
    refine Stk.sk ?_
    refine Stk.sq ?_
    refine Stk.bk ?_
    refine Stk.sq ?_
    refine Stk.rg ?_
    refine Stk.run 1 (fun t H n => t 0 = .ssl (encs c97 a0) a0.length false ∧ t 1 = .ssl (encs c97 a1) a1.length false ∧ t 6 = .ssl (encs c97 v1) v1.length false ∧ t 7 = .sc (.int .i64 v2) ∧ t 8 = .sc (.int .i64 0)) (fun J hJ => ?_) ?_
    · simp [-splice, f0, f1, f6, f7, f14]
      exact hJ _ _ _ ⟨by simp [f0], by simp [f1], by simp [f6], by simp [f7], by simp [-splice, f0, f1, f6, f7, f14]⟩
    clear f0 f1 f6 f7 f14
    rintro t H n ⟨f0, f1, f6, f7, f8⟩
    refine Stk.on ?_
    obtain ⟨K2, hK2, h⟩ := jnd h
    refine Stk.jn (fun t H n => ∃ v6 : (List api_Term), K2 v6 = some r ∧ t 0 = .ssl (encs c97 a0) a0.length false ∧ t 1 = .ssl (encs c97 a1) a1.length false ∧ t 6 = .ssl (encs c97 v6) v6.length false ∧ t 7 = .sc (.int .i64 v2)) trivial (fun J2 hJ2 => ?_) ?_
    · skip
      refine Stk.bk ?_
      refine Stk.lo (fun μ t H n => ∃ v7 : (List api_Term), ∃ v8 : Int, R13_Mul_L1 F a0 a1 v2 K2 μ v7 v8 = some r ∧ t 0 = .ssl (encs c97 a0) a0.length false ∧ t 1 = .ssl (encs c97 a1) a1.length false ∧ t 6 = .ssl (encs c97 v7) v7.length false ∧ t 7 = .sc (.int .i64 v2) ∧ t 8 = .sc (.int .i64 v8)) F ⟨v1, 0, h, f0, f1, f6, f7, f8⟩ ?_
      clear h f0 f1 f6 f7 f8
      rintro J3 hJ3 μ t H n ⟨v7, v8, h, f0, f1, f6, f7, f8⟩
      cases μ with
      | zero => exact absurd h (by simp [R13_Mul_L1])
      | succ μ =>
      rw [R13_Mul_L1] at h
      refine Stk.sq ?_
      refine Stk.sq ?_
      refine Stk.rg ?_
      refine Stk.run 4 (fun t H n => t 0 = .ssl (encs c97 a0) a0.length false ∧ t 1 = .ssl (encs c97 a1) a1.length false ∧ t 6 = .ssl (encs c97 v7) v7.length false ∧ t 7 = .sc (.int .i64 v2) ∧ t 8 = .sc (.int .i64 v8) ∧ t 20 = .sc (.bool (decide (v8 < (a1.length : Int))))) (fun J hJ => ?_) ?_
      · simp [-splice, f0, f1, f6, f7, f8]
        exact hJ _ _ _ ⟨by simp [f0], by simp [f1], by simp [f6], by simp [f7], by simp [f8], by simp [-splice, f0, f1, f6, f7, f8]⟩
      clear f0 f1 f6 f7 f8
      rintro t H n ⟨f0, f1, f6, f7, f8, f20⟩
      refine Stk.on ?_
      refine Stk.cond (decide (v8 < (a1.length : Int))) (by exact f20) (fun hb11 => ?_) (fun hb11 => ?_)
      · have h := cT hb11 h
        refine Stk.sk ?_
        refine Stk.sq ?_
        refine Stk.bk ?_
        refine Stk.sq ?_
        refine Stk.rg ?_
        refine Stk.ov (vop_build T.t97 rfl rfl (cs := c97 (api_Term.mk (Arr.rep 12 0) 0)) (cs' := c97 (api_Term.mk (Arr.rep 12 0) 0)) rfl (.nil)) (by simp [f0, f1, f6, f7, f8, f20]) rfl (fun t' ht' => ?_)
        refine Stk.gen (fun t H n => t 0 = .ssl (encs c97 a0) a0.length false ∧ t 1 = .ssl (encs c97 a1) a1.length false ∧ t 6 = .ssl (encs c97 v7) v7.length false ∧ t 7 = .sc (.int .i64 v2) ∧ t 8 = .sc (.int .i64 v8) ∧ t 23 = .agg (c97 (api_Term.mk (Arr.rep 12 0) 0))) ⟨by simp [ht', f0], by simp [ht', f1], by simp [ht', f6], by simp [ht', f7], by simp [ht', f8], by simp [ht']⟩ ?_
        clear f0 f1 f6 f7 f8 f20 ht' t'
        rintro t H n ⟨f0, f1, f6, f7, f8, f23⟩
        refine Stk.om (mop_alloc T.t97 (cs := c97 (api_Term.mk (Arr.rep 12 0) 0)) rfl) (by simp [f0, f1, f6, f7, f8, f23]) rfl (fun t' ht' => ?_)
        refine Stk.gen (fun t H n => ∃ b12, t 0 = .ssl (encs c97 a0) a0.length false ∧ t 1 = .ssl (encs c97 a1) a1.length false ∧ t 6 = .ssl (encs c97 v7) v7.length false ∧ t 7 = .sc (.int .i64 v2) ∧ t 8 = .sc (.int .i64 v8) ∧ t 9 = .own b12 0 ∧ t 23 = .agg (c97 (api_Term.mk (Arr.rep 12 0) 0)) ∧ H b12 = some (.cells (c97 (api_Term.mk (Arr.rep 12 0) 0)) 97) ∧ b12 < n) ⟨n, by simp [ht', f0], by simp [ht', f1], by simp [ht', f6], by simp [ht', f7], by simp [ht', f8], by simp [ht'], by simp [ht', f23], upd_same _ _ _, Nat.lt_succ_self _⟩ ?_
        clear f0 f1 f6 f7 f8 f23 ht' t'
        rintro t H n ⟨b12, f0, f1, f6, f7, f8, f9, f23, b_b12, l_b12⟩
        refine Stk.om (mop_store (z := 13) rfl f9 b_b12 f23 (len97 _) (by rw [len97]; decide) (ok97 _) (st_97_0_97 _ _)) (by simp [f0, f1, f6, f7, f8, f9, f23]) rfl (fun t' ht' => ?_)
        refine Stk.gen (fun t H n => t 0 = .ssl (encs c97 a0) a0.length false ∧ t 1 = .ssl (encs c97 a1) a1.length false ∧ t 6 = .ssl (encs c97 v7) v7.length false ∧ t 7 = .sc (.int .i64 v2) ∧ t 8 = .sc (.int .i64 v8) ∧ t 9 = .own b12 0 ∧ H b12 = some (.cells (c97 (api_Term.mk (Arr.rep 12 0) 0)) 97) ∧ b12 < n) ⟨by simp [ht', f0], by simp [ht', f1], by simp [ht', f6], by simp [ht', f7], by simp [ht', f8], by simp [ht', f9], upd_same _ _ _, l_b12⟩ ?_
        clear f0 f1 f6 f7 f8 f9 f23 b_b12 l_b12 ht' t'
        rintro t H n ⟨f0, f1, f6, f7, f8, f9, b_b12, l_b12⟩
        refine Stk.on ?_
        refine Stk.sq ?_
        refine Stk.sq ?_
        obtain ⟨n0, hn0⟩ : ∃ m, m = n := ⟨n, rfl⟩
        have ln0 : n0 ≤ n := Nat.le_of_eq hn0
        refine Stk.rgD [.rd [], .rd [], .rd [], .rd [], .rd [], .rd [], .rd [], .rd [], .rd [], .rd [], .rd [], .rd []] none (by kernel_rfl) (by rfl) rfl (by simp [below, hn0, l_b12]) rfl ?_
        obtain ⟨x13, hx13, h⟩ := bnd h
        obtain ⟨i0x13, i1x13, i2x13, _⟩ := idx_ok hx13
        have ex13_12_2 : partOf T.T 2 (encs c97 a0) (v2.toNat * 13 + 12) = some (.sc (.int .i64 x13.Coef)) := by
            have e0 := part_elem0 (e := c97) (z := 13) (T := T.T) (ty := 2) T.t2 (by decide) (by decide) hx13 12 (by decide)
            (try simp only [Nat.mul_one, Nat.add_zero] at e0)
            exact e0.trans (ld_97_12_2 _)
        obtain ⟨x14, hx14, h⟩ := bnd h
        obtain ⟨i0x14, i1x14, i2x14, _⟩ := idx_ok hx14
        have ex14_12_2 : partOf T.T 2 (encs c97 a1) (v8.toNat * 13 + 12) = some (.sc (.int .i64 x14.Coef)) := by
            have e0 := part_elem0 (e := c97) (z := 13) (T := T.T) (ty := 2) T.t2 (by decide) (by decide) hx14 12 (by decide)
            (try simp only [Nat.mul_one, Nat.add_zero] at e0)
            exact e0.trans (ld_97_12_2 _)
        obtain ⟨x15, hx15, h⟩ := bnd h
        obtain ⟨nx15, ex15⟩ := quoM_ok hx15
        refine Stk.runD 12 (fun t H n => t 0 = .ssl (encs c97 a0) a0.length false ∧ t 1 = .ssl (encs c97 a1) a1.length false ∧ t 6 = .ssl (encs c97 v7) v7.length false ∧ t 7 = .sc (.int .i64 v2) ∧ t 8 = .sc (.int .i64 v8) ∧ t 9 = .own b12 0 ∧ t 35 = .sc (.bool (decide (x15 < x13.Coef))) ∧ H b12 = some (.cells (c97 (api_Term.mk (Arr.rep 12 0) 0)) 97) ∧ b12 < n ∧ n0 ≤ n) (fun J hJ => ?_) ?_
        · simp [-splice, f0, f1, f6, f7, f8, f9, b_b12, i0x13, i1x13, pd2, ex13_12_2, i0x14, i1x14, ex14_12_2, nx15, ex15]
          exact hJ _ _ _ ⟨by simp [f0], by simp [f1], by simp [f6], by simp [f7], by simp [f8], by simp [f9], by simp [-splice, f0, f1, f6, f7, f8, f9, b_b12, i0x13, i1x13, pd2, ex13_12_2, i0x14, i1x14, ex14_12_2, nx15, ex15], b_b12, l_b12, ln0⟩
        clear f0 f1 f6 f7 f8 f9 b_b12 l_b12 ln0
        rintro t H n ⟨f0, f1, f6, f7, f8, f9, f35, b_b12, l_b12, ln0⟩
        refine Stk.onD ?_
        refine Stk.cond (decide (x15 < x13.Coef)) (by exact f35) (fun hb16 => ?_) (fun hb16 => ?_)
        · have h := cT hb16 h
          refine Stk.sq ?_
          refine Stk.rg ?_
          refine Stk.run 1 (fun t H n => t 4 = .sc (.slice none 0 0)) (fun J hJ => ?_) ?_
          · simp [-splice, f0, f1, f6, f7, f8, f9, f35, b_b12]
            exact hJ _ _ _ (by simp [-splice, f0, f1, f6, f7, f8, f9, f35, b_b12])
          clear f0 f1 f6 f7 f8 f9 f35 b_b12 l_b12 ln0
          rintro t H n f4
          refine Stk.wk trivial 4 (.ssl (encs c97 ([] : (List api_Term))) ([] : (List api_Term)).length false) (by rw [f4]; exact .inr (.inr .nilS)) (fun t' ht' => ?_)
          refine Stk.gen (fun t H n => t 4 = .ssl (encs c97 ([] : (List api_Term))) ([] : (List api_Term)).length false) (by simp [ht', f4]) ?_
          clear f4 ht' t'
          rintro t H n f4
          refine Stk.run 1 (fun t H n => t 4 = .ssl (encs c97 ([] : (List api_Term))) ([] : (List api_Term)).length false ∧ t 5 = .sc (.int .i64 17)) (fun J hJ => ?_) ?_
          · simp [-splice, f4]
            exact hJ _ _ _ ⟨by simp [f4], by simp [-splice, f4]⟩
          clear f4
          rintro t H n ⟨f4, f5⟩
          refine Stk.on ?_
          refine Stk.rt ?_
          have hq := Option.some.inj h; subst hq
          exact (hr _ _ _ (.tup [.ssl (encs c97 ([] : (List api_Term))) ([] : (List api_Term)).length false, .sc (.int .i64 17)]) ([]) (by simp [f4, f5]) (.inr (.inr (.tup (.cons (.free (freeL_encs fr97 _)) (.cons (.free (rfl)) (.nil))))))).1
        · have h := cF hb16 h
          refine Stk.sk ?_
          refine Stk.sq ?_
          obtain ⟨n0, hn0⟩ : ∃ m, m = n := ⟨n, rfl⟩
          have ln0 : n0 ≤ n := Nat.le_of_eq hn0
          refine Stk.rgD [.rd [], .rd [], .rd [], .rd [], .rd [], .rd [], .rd [], .rd [], .rd [], .rd [], .rd [], .rd [], .mem [b12] n0] none (by kernel_rfl) (by rfl) rfl (by simp [below, hn0, l_b12]) rfl ?_
          obtain ⟨x17, hx17, h⟩ := bnd h
          obtain ⟨i0x17, i1x17, i2x17, _⟩ := idx_ok hx17
          have ex17_12_2 : partOf T.T 2 (encs c97 a0) (v2.toNat * 13 + 12) = some (.sc (.int .i64 x17.Coef)) := by
              have e0 := part_elem0 (e := c97) (z := 13) (T := T.T) (ty := 2) T.t2 (by decide) (by decide) hx17 12 (by decide)
              (try simp only [Nat.mul_one, Nat.add_zero] at e0)
              exact e0.trans (ld_97_12_2 _)
          obtain ⟨x18, hx18, h⟩ := bnd h
          obtain ⟨i0x18, i1x18, i2x18, _⟩ := idx_ok hx18
          have ex18_12_2 : partOf T.T 2 (encs c97 a1) (v8.toNat * 13 + 12) = some (.sc (.int .i64 x18.Coef)) := by
              have e0 := part_elem0 (e := c97) (z := 13) (T := T.T) (ty := 2) T.t2 (by decide) (by decide) hx18 12 (by decide)
              (try simp only [Nat.mul_one, Nat.add_zero] at e0)
              exact e0.trans (ld_97_12_2 _)
          refine Stk.runD 12 (fun t H n => t 0 = .ssl (encs c97 a0) a0.length false ∧ t 1 = .ssl (encs c97 a1) a1.length false ∧ t 6 = .ssl (encs c97 v7) v7.length false ∧ t 7 = .sc (.int .i64 v2) ∧ t 8 = .sc (.int .i64 v8) ∧ t 9 = .own b12 0 ∧ t 46 = .sc (.int .i64 (IntKind.i64.wrap (x17.Coef * x18.Coef))) ∧ t 47 = .own b12 12 ∧ H b12 = some (.cells (c97 (api_Term.mk (Arr.rep 12 0) 0)) 97) ∧ b12 < n ∧ n0 ≤ n) (fun J hJ => ?_) ?_
          · simp [-splice, f0, f1, f6, f7, f8, f9, f35, b_b12, i0x17, i1x17, pd2, ex17_12_2, i0x18, i1x18, ex18_12_2]
            exact hJ _ _ _ ⟨by simp [f0], by simp [f1], by simp [f6], by simp [f7], by simp [f8], by simp [f9], by simp [-splice, f0, f1, f6, f7, f8, f9, f35, b_b12, i0x17, i1x17, pd2, ex17_12_2, i0x18, i1x18, ex18_12_2], by simp [-splice, f0, f1, f6, f7, f8, f9, f35, b_b12, i0x17, i1x17, pd2, ex17_12_2, i0x18, i1x18, ex18_12_2], b_b12, l_b12, ln0⟩
          clear f0 f1 f6 f7 f8 f9 f35 b_b12 l_b12 ln0
          rintro t H n ⟨f0, f1, f6, f7, f8, f9, f46, f47, b_b12, l_b12, ln0⟩
          refine Stk.omD (S := [b12]) (b := n0) rfl (fun j hj hm => upd_ne _ _ (by simpa using hm)) rfl (mop_store (z := 1) rfl f47 b_b12 f46 rfl (by rw [len97]; decide) rfl (st_97_12_2 _ _)) (by simp [f0, f1, f6, f7, f8, f9, f46, f47]) rfl (fun t' ht' => ?_)
          refine Stk.gen (fun t H n => t 0 = .ssl (encs c97 a0) a0.length false ∧ t 1 = .ssl (encs c97 a1) a1.length false ∧ t 6 = .ssl (encs c97 v7) v7.length false ∧ t 7 = .sc (.int .i64 v2) ∧ t 8 = .sc (.int .i64 v8) ∧ t 9 = .own b12 0 ∧ H b12 = some (.cells (c97 ({ (api_Term.mk (Arr.rep 12 0) 0) with Coef := (IntKind.i64.wrap (x17.Coef * x18.Coef)) })) 97) ∧ b12 < n ∧ n0 ≤ n) ⟨by simp [ht', f0], by simp [ht', f1], by simp [ht', f6], by simp [ht', f7], by simp [ht', f8], by simp [ht', f9], upd_same _ _ _, l_b12, ln0⟩ ?_
          clear f0 f1 f6 f7 f8 f9 f46 f47 b_b12 l_b12 ln0 ht' t'
          rintro t H n ⟨f0, f1, f6, f7, f8, f9, b_b12, l_b12, ln0⟩
          refine Stk.onD ?_
          refine Stk.sq ?_
          refine Stk.sq ?_
          refine Stk.rg ?_
          refine Stk.run 1 (fun t H n => t 0 = .ssl (encs c97 a0) a0.length false ∧ t 1 = .ssl (encs c97 a1) a1.length false ∧ t 6 = .ssl (encs c97 v7) v7.length false ∧ t 7 = .sc (.int .i64 v2) ∧ t 8 = .sc (.int .i64 v8) ∧ t 9 = .own b12 0 ∧ t 10 = .sc (.int .i64 0) ∧ H b12 = some (.cells (c97 ({ (api_Term.mk (Arr.rep 12 0) 0) with Coef := (IntKind.i64.wrap (x17.Coef * x18.Coef)) })) 97) ∧ b12 < n) (fun J hJ => ?_) ?_
          · simp [-splice, f0, f1, f6, f7, f8, f9, b_b12]
            exact hJ _ _ _ ⟨by simp [f0], by simp [f1], by simp [f6], by simp [f7], by simp [f8], by simp [f9], by simp [-splice, f0, f1, f6, f7, f8, f9, b_b12], b_b12, l_b12⟩
          clear f0 f1 f6 f7 f8 f9 b_b12 l_b12 ln0
          rintro t H n ⟨f0, f1, f6, f7, f8, f9, f10, b_b12, l_b12⟩
          refine Stk.on ?_
          obtain ⟨K4, hK4, h⟩ := jnd h
          refine Stk.jn (fun t H n => ∃ v19 : api_Term, K4 v19 = some r ∧ t 0 = .ssl (encs c97 a0) a0.length false ∧ t 1 = .ssl (encs c97 a1) a1.length false ∧ t 6 = .ssl (encs c97 v7) v7.length false ∧ t 7 = .sc (.int .i64 v2) ∧ t 8 = .sc (.int .i64 v8) ∧ t 9 = .own b12 0 ∧ H b12 = some (.cells (c97 v19) 97) ∧ b12 < n) trivial (fun J4 hJ4 => ?_) ?_
          · skip
            refine Stk.bk ?_
            refine Stk.lo (fun μ t H n => ∃ v20 : Int, ∃ v21 : api_Term, R13_Mul_L2 F a0 a1 v2 v8 K4 μ v20 v21 = some r ∧ t 0 = .ssl (encs c97 a0) a0.length false ∧ t 1 = .ssl (encs c97 a1) a1.length false ∧ t 6 = .ssl (encs c97 v7) v7.length false ∧ t 7 = .sc (.int .i64 v2) ∧ t 8 = .sc (.int .i64 v8) ∧ t 9 = .own b12 0 ∧ t 10 = .sc (.int .i64 v20) ∧ H b12 = some (.cells (c97 v21) 97) ∧ b12 < n) F ⟨0, ({ (api_Term.mk (Arr.rep 12 0) 0) with Coef := (IntKind.i64.wrap (x17.Coef * x18.Coef)) }), h, f0, f1, f6, f7, f8, f9, f10, b_b12, l_b12⟩ ?_
            clear h f0 f1 f6 f7 f8 f9 f10 b_b12 l_b12
            rintro J5 hJ5 μ t H n ⟨v20, v21, h, f0, f1, f6, f7, f8, f9, f10, b_b12, l_b12⟩
            cases μ with
            | zero => exact absurd h (by simp [R13_Mul_L2])
            | succ μ =>
            rw [R13_Mul_L2] at h
            refine Stk.sq ?_
            refine Stk.sq ?_
            refine Stk.rg ?_
            refine Stk.run 2 (fun t H n => t 0 = .ssl (encs c97 a0) a0.length false ∧ t 1 = .ssl (encs c97 a1) a1.length false ∧ t 6 = .ssl (encs c97 v7) v7.length false ∧ t 7 = .sc (.int .i64 v2) ∧ t 8 = .sc (.int .i64 v8) ∧ t 9 = .own b12 0 ∧ t 10 = .sc (.int .i64 v20) ∧ t 49 = .sc (.bool (decide (v20 < 12))) ∧ H b12 = some (.cells (c97 v21) 97) ∧ b12 < n) (fun J hJ => ?_) ?_
            · simp [-splice, f0, f1, f6, f7, f8, f9, f10, b_b12]
              exact hJ _ _ _ ⟨by simp [f0], by simp [f1], by simp [f6], by simp [f7], by simp [f8], by simp [f9], by simp [f10], by simp [-splice, f0, f1, f6, f7, f8, f9, f10, b_b12], b_b12, l_b12⟩
            clear f0 f1 f6 f7 f8 f9 f10 b_b12 l_b12
            rintro t H n ⟨f0, f1, f6, f7, f8, f9, f10, f49, b_b12, l_b12⟩
            refine Stk.on ?_
            refine Stk.cond (decide (v20 < 12)) (by exact f49) (fun hb24 => ?_) (fun hb24 => ?_)
            · have h := cT hb24 h
              refine Stk.sk ?_
              refine Stk.sq ?_
              refine Stk.bk ?_
              obtain ⟨n0, hn0⟩ : ∃ m, m = n := ⟨n, rfl⟩
              have ln0 : n0 ≤ n := Nat.le_of_eq hn0
              refine Stk.rgD [.rd [], .rd [], .rd [], .rd [], .rd [], .rd [], .rd [], .rd [], .rd [], .rd [], .rd [], .rd [], .rd [], .rd [], .rd [], .rd [], .rd [], .rd [], .mem [b12] n0] none (by kernel_rfl) (by rfl) rfl (by simp [below, hn0, l_b12]) rfl ?_
              obtain ⟨x25, hx25, h⟩ := bnd h
              obtain ⟨i0x25, i1x25, i2x25, _⟩ := idx_ok hx25
              obtain ⟨x26, hx26, h⟩ := bnd h
              obtain ⟨i0x26, i1x26, i2x26, _⟩ := idx_ok hx26
              have i3x26 : v20 < 12 := by rw [x25.Exps.2] at i1x26; exact i1x26
              have i4x26 : v20.toNat < 12 := by omega
              have qx26 : partOf T.T 5 (encs c97 a0) (v2.toNat * 13 + v20.toNat) = some (.sc (.int .u8 x26)) := by
                have e1 := part_elem0 (e := c97) (z := 13) (T := T.T) (ty := 5) T.t5 (by decide) (by decide) hx25 v20.toNat (by show _ + 1 ≤ _; omega)
                have e2 : partOf T.T 5 (c97 x25) v20.toNat = some (.sc (.int .u8 x26)) := by
                  rw [c97]
                  rw [part_head T.t5 (by decide) (by rw [Enc.len (e := c95)]; show _ + 1 ≤ _; omega)]
                  rw [c95]
                  have e0 := part_elem0 (e := c5) (z := 1) (T := T.T) (ty := 5) T.t5 (by decide) (by decide) hx26 0 (by decide)
                  (try simp only [Nat.mul_one, Nat.add_zero] at e0)
                  exact e0.trans rfl
                rw [e2] at e1
                simpa [Nat.add_assoc] using e1
              obtain ⟨x27, hx27, h⟩ := bnd h
              obtain ⟨i0x27, i1x27, i2x27, _⟩ := idx_ok hx27
              obtain ⟨x28, hx28, h⟩ := bnd h
              obtain ⟨i0x28, i1x28, i2x28, _⟩ := idx_ok hx28
              have i3x28 : v20 < 12 := by rw [x27.Exps.2] at i1x28; exact i1x28
              have i4x28 : v20.toNat < 12 := by omega
              have qx28 : partOf T.T 5 (encs c97 a1) (v8.toNat * 13 + v20.toNat) = some (.sc (.int .u8 x28)) := by
                have e1 := part_elem0 (e := c97) (z := 13) (T := T.T) (ty := 5) T.t5 (by decide) (by decide) hx27 v20.toNat (by show _ + 1 ≤ _; omega)
                have e2 : partOf T.T 5 (c97 x27) v20.toNat = some (.sc (.int .u8 x28)) := by
                  rw [c97]
                  rw [part_head T.t5 (by decide) (by rw [Enc.len (e := c95)]; show _ + 1 ≤ _; omega)]
                  rw [c95]
                  have e0 := part_elem0 (e := c5) (z := 1) (T := T.T) (ty := 5) T.t5 (by decide) (by decide) hx28 0 (by decide)
                  (try simp only [Nat.mul_one, Nat.add_zero] at e0)
                  exact e0.trans rfl
                rw [e2] at e1
                simpa [Nat.add_assoc] using e1
              obtain ⟨x29, hx29, h⟩ := bnd h
              obtain ⟨i0x29, i1x29, i2x29, _⟩ := idx_ok hx29
              have i3x29 : v20 < 12 := by rw [v21.Exps.2] at i1x29; exact i1x29
              have i4x29 : v20.toNat < 12 := by omega
              refine Stk.runD 18 (fun t H n => t 0 = .ssl (encs c97 a0) a0.length false ∧ t 1 = .ssl (encs c97 a1) a1.length false ∧ t 6 = .ssl (encs c97 v7) v7.length false ∧ t 7 = .sc (.int .i64 v2) ∧ t 8 = .sc (.int .i64 v8) ∧ t 9 = .own b12 0 ∧ t 10 = .sc (.int .i64 v20) ∧ t 67 = .sc (.int .u8 (IntKind.u8.wrap (x26 + x28))) ∧ t 69 = .own b12 (v20.toNat) ∧ H b12 = some (.cells (c97 v21) 97) ∧ b12 < n ∧ n0 ≤ n) (fun J hJ => ?_) ?_
              · simp [-splice, f0, f1, f6, f7, f8, f9, f10, f49, b_b12, i0x25, i1x25, i0x26, i1x26, i3x26, i4x26, pd5, qx26, i0x27, i1x27, i0x28, i1x28, i3x28, i4x28, qx28, i0x29, i1x29, i3x29, i4x29]
                exact hJ _ _ _ ⟨by simp [f0], by simp [f1], by simp [f6], by simp [f7], by simp [f8], by simp [f9], by simp [f10], by simp [-splice, f0, f1, f6, f7, f8, f9, f10, f49, b_b12, i0x25, i1x25, i0x26, i1x26, i3x26, i4x26, pd5, qx26, i0x27, i1x27, i0x28, i1x28, i3x28, i4x28, qx28, i0x29, i1x29, i3x29, i4x29], by simp [-splice, f0, f1, f6, f7, f8, f9, f10, f49, b_b12, i0x25, i1x25, i0x26, i1x26, i3x26, i4x26, pd5, qx26, i0x27, i1x27, i0x28, i1x28, i3x28, i4x28, qx28, i0x29, i1x29, i3x29, i4x29], b_b12, l_b12, ln0⟩
              clear f0 f1 f6 f7 f8 f9 f10 f49 b_b12 l_b12 ln0
              rintro t H n ⟨f0, f1, f6, f7, f8, f9, f10, f67, f69, b_b12, l_b12, ln0⟩
              have sp : splice (c97 v21) (v20.toNat) ([.sc (.int .u8 (IntKind.u8.wrap (x26 + x28)))]) = c97 ({ v21 with Exps := (v21.Exps.set v20 (IntKind.u8.wrap (x26 + x28))) }) := by
                rw [c97, c97]
                rw [splice_head (by rw [Enc.len (e := c95)]; simp; omega)]
                congr 1
                rw [c95, c95, Arr.set]
                have e0 := splice_elem0 (e := c5) (z := 1) hx29
                simpa using e0 _
              refine Stk.omD (S := [b12]) (b := n0) rfl (fun j hj hm => upd_ne _ _ (by simpa using hm)) rfl (mop_store (z := 1) rfl f69 b_b12 f67 rfl (by rw [len97]; omega) rfl sp) (by simp [f0, f1, f6, f7, f8, f9, f10, f67, f69]) rfl (fun t' ht' => ?_)
              refine Stk.gen (fun t H n => t 0 = .ssl (encs c97 a0) a0.length false ∧ t 1 = .ssl (encs c97 a1) a1.length false ∧ t 6 = .ssl (encs c97 v7) v7.length false ∧ t 7 = .sc (.int .i64 v2) ∧ t 8 = .sc (.int .i64 v8) ∧ t 9 = .own b12 0 ∧ t 10 = .sc (.int .i64 v20) ∧ H b12 = some (.cells (c97 ({ v21 with Exps := (v21.Exps.set v20 (IntKind.u8.wrap (x26 + x28))) })) 97) ∧ b12 < n ∧ n0 ≤ n) ⟨by simp [ht', f0], by simp [ht', f1], by simp [ht', f6], by simp [ht', f7], by simp [ht', f8], by simp [ht', f9], by simp [ht', f10], upd_same _ _ _, l_b12, ln0⟩ ?_
              clear f0 f1 f6 f7 f8 f9 f10 f67 f69 b_b12 l_b12 ln0 sp ht' t'
              rintro t H n ⟨f0, f1, f6, f7, f8, f9, f10, b_b12, l_b12, ln0⟩
              refine Stk.onD ?_
              refine Stk.bn ?_
              refine Stk.rg ?_
              refine Stk.run 3 (fun t H n => t 0 = .ssl (encs c97 a0) a0.length false ∧ t 1 = .ssl (encs c97 a1) a1.length false ∧ t 6 = .ssl (encs c97 v7) v7.length false ∧ t 7 = .sc (.int .i64 v2) ∧ t 8 = .sc (.int .i64 v8) ∧ t 9 = .own b12 0 ∧ t 10 = .sc (.int .i64 (IntKind.i64.wrap (v20 + 1))) ∧ H b12 = some (.cells (c97 ({ v21 with Exps := (v21.Exps.set v20 (IntKind.u8.wrap (x26 + x28))) })) 97) ∧ b12 < n) (fun J hJ => ?_) ?_
              · simp [-splice, f0, f1, f6, f7, f8, f9, f10, b_b12]
                exact hJ _ _ _ ⟨by simp [f0], by simp [f1], by simp [f6], by simp [f7], by simp [f8], by simp [f9], by simp [-splice, f0, f1, f6, f7, f8, f9, f10, b_b12], b_b12, l_b12⟩
              clear f0 f1 f6 f7 f8 f9 f10 b_b12 l_b12 ln0
              rintro t H n ⟨f0, f1, f6, f7, f8, f9, f10, b_b12, l_b12⟩
              refine Stk.on ?_
              exact Stk.ln μ (Nat.lt_succ_self _) (hJ5 _ _ _ _ ⟨(IntKind.i64.wrap (v20 + 1)), ({ v21 with Exps := (v21.Exps.set v20 (IntKind.u8.wrap (x26 + x28))) }), h, f0, f1, f6, f7, f8, f9, f10, b_b12, l_b12⟩)
            · have h := cF hb24 h
              refine Stk.ex rfl ?_
              exact Stk.ln 0 (by decide) (hJ4 _ _ _ ⟨v21, h, f0, f1, f6, f7, f8, f9, b_b12, l_b12⟩)
          clear h f0 f1 f6 f7 f8 f9 f10 b_b12 l_b12
          rintro t H n ⟨v19, h, f0, f1, f6, f7, f8, f9, b_b12, l_b12⟩
          subst hK4
          refine Stk.sq ?_
          refine Stk.rg ?_
          refine Stk.run 2 (fun t H n => t 0 = .ssl (encs c97 a0) a0.length false ∧ t 1 = .ssl (encs c97 a1) a1.length false ∧ t 7 = .sc (.int .i64 v2) ∧ t 8 = .sc (.int .i64 v8) ∧ t 70 = .ssl (encs c97 v7) v7.length false ∧ t 71 = .agg (c97 v19)) (fun J hJ => ?_) ?_
          · simp [-splice, f0, f1, f6, f7, f8, f9, b_b12, ld_97_0_97]
            exact hJ _ _ _ ⟨by simp [f0], by simp [f1], by simp [f7], by simp [f8], by simp [-splice, f0, f1, f6, f7, f8, f9, b_b12, ld_97_0_97], by simp [-splice, f0, f1, f6, f7, f8, f9, b_b12, ld_97_0_97]⟩
          clear f0 f1 f6 f7 f8 f9 b_b12 l_b12
          rintro t H n ⟨f0, f1, f7, f8, f70, f71⟩
          obtain ⟨x30, hx30, h⟩ := bnd h
          refine Stk.cv (g := 71) (args := [.ssl (encs c97 v7) v7.length false, .agg (c97 v19), .sc (.bool true)]) (args' := [.ssl (encs c97 v7) v7.length false, .agg (c97 v19), .sc (.bool true)]) (v := .ssl (encs c97 x30) x30.length false) [] (ok_R13_put F _ _ _ _ hx30) (by simp [f0, f1, f7, f8, f70, f71]) rfl rfl (by simp [f0, f1, f7, f8, f70, f71]) (.cons (.free (freeL_encs fr97 _)) (.cons (.free (fr97 _)) (.cons (.free (rfl)) (.nil)))) (.inl ⟨rfl, freeL_encs fr97 _⟩) (fun t' ht' => ?_)
          refine Stk.gen (fun t H n => t 0 = .ssl (encs c97 a0) a0.length false ∧ t 1 = .ssl (encs c97 a1) a1.length false ∧ t 7 = .sc (.int .i64 v2) ∧ t 8 = .sc (.int .i64 v8) ∧ t 72 = .ssl (encs c97 x30) x30.length false) ⟨by simp [ht', f0], by simp [ht', f1], by simp [ht', f7], by simp [ht', f8], by simp [ht']⟩ ?_
          clear f0 f1 f7 f8 f70 f71 ht' t'
          rintro t H n ⟨f0, f1, f7, f8, f72⟩
          refine Stk.run 1 (fun t H n => t 0 = .ssl (encs c97 a0) a0.length false ∧ t 1 = .ssl (encs c97 a1) a1.length false ∧ t 6 = .ssl (encs c97 x30) x30.length false ∧ t 7 = .sc (.int .i64 v2) ∧ t 8 = .sc (.int .i64 v8)) (fun J hJ => ?_) ?_
          · simp [-splice, f0, f1, f7, f8, f72]
            exact hJ _ _ _ ⟨by simp [f0], by simp [f1], by simp [-splice, f0, f1, f7, f8, f72], by simp [f7], by simp [f8]⟩
          clear f0 f1 f7 f8 f72
          rintro t H n ⟨f0, f1, f6, f7, f8⟩
          refine Stk.on ?_
          refine Stk.sq ?_
          refine Stk.rg ?_
          refine Stk.run 1 (fun t H n => t 0 = .ssl (encs c97 a0) a0.length false ∧ t 1 = .ssl (encs c97 a1) a1.length false ∧ t 6 = .ssl (encs c97 x30) x30.length false ∧ t 7 = .sc (.int .i64 v2) ∧ t 8 = .sc (.int .i64 v8) ∧ t 73 = .ssl (encs c97 x30) x30.length false) (fun J hJ => ?_) ?_
          · simp [-splice, f0, f1, f6, f7, f8]
            exact hJ _ _ _ ⟨by simp [f0], by simp [f1], by simp [f6], by simp [f7], by simp [f8], by simp [-splice, f0, f1, f6, f7, f8]⟩
          clear f0 f1 f6 f7 f8
          rintro t H n ⟨f0, f1, f6, f7, f8, f73⟩
          obtain ⟨x31, hx31, h⟩ := bnd h
          refine Stk.cv (g := 23) (args := [.ssl (encs c97 x30) x30.length false]) (args' := [.ssl (encs c97 x30) x30.length false]) (v := .sc (.bool x31)) [] (ok_R13_Fit F _ _ hx31) (by simp [f0, f1, f6, f7, f8, f73]) rfl rfl (by simp [f0, f1, f6, f7, f8, f73]) (.cons (.free (freeL_encs fr97 _)) (.nil)) (.inl ⟨rfl, rfl⟩) (fun t' ht' => ?_)
          refine Stk.gen (fun t H n => t 0 = .ssl (encs c97 a0) a0.length false ∧ t 1 = .ssl (encs c97 a1) a1.length false ∧ t 6 = .ssl (encs c97 x30) x30.length false ∧ t 7 = .sc (.int .i64 v2) ∧ t 8 = .sc (.int .i64 v8) ∧ t 74 = .sc (.bool x31)) ⟨by simp [ht', f0], by simp [ht', f1], by simp [ht', f6], by simp [ht', f7], by simp [ht', f8], by simp [ht']⟩ ?_
          clear f0 f1 f6 f7 f8 f73 ht' t'
          rintro t H n ⟨f0, f1, f6, f7, f8, f74⟩
          refine Stk.run 1 (fun t H n => t 0 = .ssl (encs c97 a0) a0.length false ∧ t 1 = .ssl (encs c97 a1) a1.length false ∧ t 6 = .ssl (encs c97 x30) x30.length false ∧ t 7 = .sc (.int .i64 v2) ∧ t 8 = .sc (.int .i64 v8) ∧ t 75 = .sc (.bool (!x31))) (fun J hJ => ?_) ?_
          · simp [-splice, f0, f1, f6, f7, f8, f74]
            exact hJ _ _ _ ⟨by simp [f0], by simp [f1], by simp [f6], by simp [f7], by simp [f8], by simp [-splice, f0, f1, f6, f7, f8, f74]⟩
          clear f0 f1 f6 f7 f8 f74
          rintro t H n ⟨f0, f1, f6, f7, f8, f75⟩
          refine Stk.on ?_
          refine Stk.cond (!x31) (by exact f75) (fun hb32 => ?_) (fun hb32 => ?_)
          · have h := cT hb32 h
            refine Stk.sq ?_
            refine Stk.rg ?_
            refine Stk.run 1 (fun t H n => t 4 = .sc (.slice none 0 0)) (fun J hJ => ?_) ?_
            · simp [-splice, f0, f1, f6, f7, f8, f75]
              exact hJ _ _ _ (by simp [-splice, f0, f1, f6, f7, f8, f75])
            clear f0 f1 f6 f7 f8 f75
            rintro t H n f4
            refine Stk.wk trivial 4 (.ssl (encs c97 ([] : (List api_Term))) ([] : (List api_Term)).length false) (by rw [f4]; exact .inr (.inr .nilS)) (fun t' ht' => ?_)
            refine Stk.gen (fun t H n => t 4 = .ssl (encs c97 ([] : (List api_Term))) ([] : (List api_Term)).length false) (by simp [ht', f4]) ?_
            clear f4 ht' t'
            rintro t H n f4
            refine Stk.run 1 (fun t H n => t 4 = .ssl (encs c97 ([] : (List api_Term))) ([] : (List api_Term)).length false ∧ t 5 = .sc (.int .i64 17)) (fun J hJ => ?_) ?_
            · simp [-splice, f4]
              exact hJ _ _ _ ⟨by simp [f4], by simp [-splice, f4]⟩
            clear f4
            rintro t H n ⟨f4, f5⟩
            refine Stk.on ?_
            refine Stk.rt ?_
            have hq := Option.some.inj h; subst hq
            exact (hr _ _ _ (.tup [.ssl (encs c97 ([] : (List api_Term))) ([] : (List api_Term)).length false, .sc (.int .i64 17)]) ([]) (by simp [f4, f5]) (.inr (.inr (.tup (.cons (.free (freeL_encs fr97 _)) (.cons (.free (rfl)) (.nil))))))).1
          · have h := cF hb32 h
            refine Stk.sk ?_
            refine Stk.bn ?_
            refine Stk.rg ?_
            refine Stk.run 3 (fun t H n => t 0 = .ssl (encs c97 a0) a0.length false ∧ t 1 = .ssl (encs c97 a1) a1.length false ∧ t 6 = .ssl (encs c97 x30) x30.length false ∧ t 7 = .sc (.int .i64 v2) ∧ t 8 = .sc (.int .i64 (IntKind.i64.wrap (v8 + 1)))) (fun J hJ => ?_) ?_
            · simp [-splice, f0, f1, f6, f7, f8, f75]
              exact hJ _ _ _ ⟨by simp [f0], by simp [f1], by simp [f6], by simp [f7], by simp [-splice, f0, f1, f6, f7, f8, f75]⟩
            clear f0 f1 f6 f7 f8 f75
            rintro t H n ⟨f0, f1, f6, f7, f8⟩
            refine Stk.on ?_
            exact Stk.ln μ (Nat.lt_succ_self _) (hJ3 _ _ _ _ ⟨x30, (IntKind.i64.wrap (v8 + 1)), h, f0, f1, f6, f7, f8⟩)
      · have h := cF hb11 h
        refine Stk.ex rfl ?_
        exact Stk.ln 0 (by decide) (hJ2 _ _ _ ⟨v7, h, f0, f1, f6, f7⟩)
    clear h f0 f1 f6 f7 f8
    rintro t H n ⟨v6, h, f0, f1, f6, f7⟩
    subst hK2
    refine Stk.bn ?_
    refine Stk.rg ?_
    refine Stk.run 3 (fun t H n => t 0 = .ssl (encs c97 a0) a0.length false ∧ t 1 = .ssl (encs c97 a1) a1.length false ∧ t 6 = .ssl (encs c97 v6) v6.length false ∧ t 7 = .sc (.int .i64 (IntKind.i64.wrap (v2 + 1)))) (fun J hJ => ?_) ?_
    · simp [-splice, f0, f1, f6, f7]
      exact hJ _ _ _ ⟨by simp [f0], by simp [f1], by simp [f6], by simp [-splice, f0, f1, f6, f7]⟩
    clear f0 f1 f6 f7
    rintro t H n ⟨f0, f1, f6, f7⟩
    refine Stk.on ?_
    exact Stk.ln μ (Nat.lt_succ_self _) (hJ1 _ _ _ _ ⟨v6, (IntKind.i64.wrap (v2 + 1)), h, f0, f1, f6, f7⟩)
  · have h := cF hb5 h
    refine Stk.ex rfl ?_
    refine Stk.sq ?_
    refine Stk.rg ?_
    refine Stk.run 3 (fun t H n => t 4 = .ssl (encs c97 v1) v1.length false ∧ t 5 = .sc (.int .i64 0)) (fun J hJ => ?_) ?_
    · simp [-splice, f0, f1, f6, f7, f14]
      exact hJ _ _ _ ⟨by simp [-splice, f0, f1, f6, f7, f14], by simp [-splice, f0, f1, f6, f7, f14]⟩
    clear f0 f1 f6 f7 f14
    rintro t H n ⟨f4, f5⟩
    refine Stk.on ?_
    refine Stk.rt ?_
    have hq := Option.some.inj h; subst hq
    exact (hr _ _ _ (.tup [.ssl (encs c97 v1) v1.length false, .sc (.int .i64 0)]) ([]) (by simp [f4, f5]) (.inr (.inr (.tup (.cons (.free (freeL_encs fr97 _)) (.cons (.free (rfl)) (.nil))))))).1
theorem ok_R13_Max (F : Nat) (a0 : (List api_Term)) (a1 : (List api_Term)) (r : ((List api_Term) × Int)) (h : R13_Max F a0 a1 = some r) : RunF Try.prog T.T 29 [.ssl (encs c97 a0) a0.length false, .ssl (encs c97 a1) a1.length false] (.tup [.ssl (encs c97 r.1) r.1.length false, .sc (.int .i64 r.2)]) := by
  rw [R13_Max] at h
  refine RunF.z Try.func29 rfl rfl rfl rfl rfl (fun C hr => ?_)
  refine Stk.gen (fun t H n => t 0 = .ssl (encs c97 a0) a0.length false ∧ t 1 = .ssl (encs c97 a1) a1.length false) ⟨by simp, by simp⟩ ?_
  rintro t H n ⟨f0, f1⟩
  refine Stk.sq ?_
  refine Stk.rg ?_
  refine Stk.run 1 (fun t H n => t 0 = .ssl (encs c97 a0) a0.length false ∧ t 1 = .ssl (encs c97 a1) a1.length false) (fun J hJ => ?_) ?_
  · simp [-splice, f0, f1]
    exact hJ _ _ _ ⟨by simp [f0], by simp [f1]⟩
  clear f0 f1
  rintro t H n ⟨f0, f1⟩
  refine Stk.run 1 (fun t H n => t 0 = .ssl (encs c97 a0) a0.length false ∧ t 1 = .ssl (encs c97 a1) a1.length false) (fun J hJ => ?_) ?_
  · simp [-splice, f0, f1]
    exact hJ _ _ _ ⟨by simp [f0], by simp [f1]⟩
  clear f0 f1
  rintro t H n ⟨f0, f1⟩
  refine Stk.on ?_
  refine Stk.sq ?_
  refine Stk.rg ?_
  refine Stk.run 2 (fun t H n => t 6 = .ssl (encs c97 a0) a0.length false ∧ t 7 = .ssl (encs c97 a1) a1.length false) (fun J hJ => ?_) ?_
  · simp [-splice, f0, f1]
    exact hJ _ _ _ ⟨by simp [-splice, f0, f1], by simp [-splice, f0, f1]⟩
  clear f0 f1
  rintro t H n ⟨f6, f7⟩
  obtain ⟨x1, hx1, h⟩ := bnd h
  refine Stk.cv (g := 70) (args := [.ssl (encs c97 a0) a0.length false, .ssl (encs c97 a1) a1.length false, .sc (.bool false)]) (args' := [.ssl (encs c97 a0) a0.length false, .ssl (encs c97 a1) a1.length false, .sc (.bool false)]) (v := .tup [.ssl (encs c97 x1.1) x1.1.length false, .sc (.int .i64 x1.2)]) [] (ok_R13_merge F _ _ _ _ hx1) (by simp [f6, f7]) rfl rfl (by simp [f6, f7]) (.cons (.free (freeL_encs fr97 _)) (.cons (.free (freeL_encs fr97 _)) (.cons (.free (rfl)) (.nil)))) (.inl ⟨rfl, by simp [free, freeL, freeL_encs fr97]⟩) (fun t' ht' => ?_)
  refine Stk.gen (fun t H n => t 8 = .tup [.ssl (encs c97 x1.1) x1.1.length false, .sc (.int .i64 x1.2)]) (by simp [ht']) ?_
  clear f6 f7 ht' t'
  rintro t H n f8
  refine Stk.run 4 (fun t H n => t 4 = .ssl (encs c97 x1.1) x1.1.length false ∧ t 5 = .sc (.int .i64 x1.2)) (fun J hJ => ?_) ?_
  · simp [-splice, f8]
    exact hJ _ _ _ ⟨by simp [-splice, f8], by simp [-splice, f8]⟩
  clear f8
  rintro t H n ⟨f4, f5⟩
  refine Stk.on ?_
  refine Stk.rt ?_
  have hq := Option.some.inj h; subst hq
  exact (hr _ _ _ (.tup [.ssl (encs c97 x1.1) x1.1.length false, .sc (.int .i64 x1.2)]) ([]) (by simp [f4, f5]) (.inr (.inr (.tup (.cons (.free (freeL_encs fr97 _)) (.cons (.free (rfl)) (.nil))))))).1
theorem ok_R13_Num (F : Nat) (a0 : Int) (r : ((List api_Term) × Int)) (h : R13_Num F a0 = some r) : RunF Try.prog T.T 32 [.sc (.int .i64 a0)] (.tup [.ssl (encs c97 r.1) r.1.length false, .sc (.int .i64 r.2)]) := by
  rw [R13_Num] at h
  refine RunF.z Try.func32 rfl rfl rfl rfl rfl (fun C hr => ?_)
  refine Stk.gen (fun t H n => t 0 = .sc (.int .i64 a0)) (by simp) ?_
  rintro t H n f0
  refine Stk.sq ?_
  refine Stk.rg ?_
  refine Stk.run 1 (fun t H n => t 0 = .sc (.int .i64 a0)) (fun J hJ => ?_) ?_
  · simp [-splice, f0]
    exact hJ _ _ _ (by simp [f0])
  clear f0
  rintro t H n f0
  refine Stk.run 1 (fun t H n => t 0 = .sc (.int .i64 a0)) (fun J hJ => ?_) ?_
  · simp [-splice, f0]
    exact hJ _ _ _ (by simp [f0])
  clear f0
  rintro t H n f0
  refine Stk.on ?_
  refine Stk.sq ?_
  refine Stk.sq ?_
  refine Stk.rg ?_
  refine Stk.run 2 (fun t H n => t 0 = .sc (.int .i64 a0) ∧ t 5 = .sc (.bool (decide (1099511627776 < a0)))) (fun J hJ => ?_) ?_
  · simp [-splice, f0]
    exact hJ _ _ _ ⟨by simp [f0], by simp [-splice, f0]⟩
  clear f0
  rintro t H n ⟨f0, f5⟩
  refine Stk.on ?_
  refine Stk.cond (decide (1099511627776 < a0)) (by exact f5) (fun hb1 => ?_) (fun hb1 => ?_)
  · have h := cT hb1 h
    refine Stk.sq ?_
    refine Stk.rg ?_
    refine Stk.run 1 (fun t H n => t 2 = .sc (.slice none 0 0)) (fun J hJ => ?_) ?_
    · simp [-splice, f0, f5]
      exact hJ _ _ _ (by simp [-splice, f0, f5])
    clear f0 f5
    rintro t H n f2
    refine Stk.wk trivial 2 (.ssl (encs c97 ([] : (List api_Term))) ([] : (List api_Term)).length false) (by rw [f2]; exact .inr (.inr .nilS)) (fun t' ht' => ?_)
    refine Stk.gen (fun t H n => t 2 = .ssl (encs c97 ([] : (List api_Term))) ([] : (List api_Term)).length false) (by simp [ht', f2]) ?_
    clear f2 ht' t'
    rintro t H n f2
    refine Stk.run 1 (fun t H n => t 2 = .ssl (encs c97 ([] : (List api_Term))) ([] : (List api_Term)).length false ∧ t 3 = .sc (.int .i64 17)) (fun J hJ => ?_) ?_
    · simp [-splice, f2]
      exact hJ _ _ _ ⟨by simp [f2], by simp [-splice, f2]⟩
    clear f2
    rintro t H n ⟨f2, f3⟩
    refine Stk.on ?_
    refine Stk.rt ?_
    have hq := Option.some.inj h; subst hq
    exact (hr _ _ _ (.tup [.ssl (encs c97 ([] : (List api_Term))) ([] : (List api_Term)).length false, .sc (.int .i64 17)]) ([]) (by simp [f2, f3]) (.inr (.inr (.tup (.cons (.free (freeL_encs fr97 _)) (.cons (.free (rfl)) (.nil))))))).1
  · have h := cF hb1 h
    refine Stk.sk ?_
    refine Stk.sq ?_
    refine Stk.sq ?_
    refine Stk.rg ?_
    refine Stk.run 2 (fun t H n => t 0 = .sc (.int .i64 a0) ∧ t 7 = .sc (.bool (decide (a0 < 1)))) (fun J hJ => ?_) ?_
    · simp [-splice, f0, f5]
      exact hJ _ _ _ ⟨by simp [f0], by simp [-splice, f0, f5]⟩
    clear f0 f5
    rintro t H n ⟨f0, f7⟩
    refine Stk.on ?_
    refine Stk.cond (decide (a0 < 1)) (by exact f7) (fun hb2 => ?_) (fun hb2 => ?_)
    · have h := cT hb2 h
      refine Stk.sq ?_
      refine Stk.rg ?_
      refine Stk.run 1 (fun t H n => t 2 = .sc (.slice none 0 0)) (fun J hJ => ?_) ?_
      · simp [-splice, f0, f7]
        exact hJ _ _ _ (by simp [-splice, f0, f7])
      clear f0 f7
      rintro t H n f2
      refine Stk.wk trivial 2 (.ssl (encs c97 ([] : (List api_Term))) ([] : (List api_Term)).length false) (by rw [f2]; exact .inr (.inr .nilS)) (fun t' ht' => ?_)
      refine Stk.gen (fun t H n => t 2 = .ssl (encs c97 ([] : (List api_Term))) ([] : (List api_Term)).length false) (by simp [ht', f2]) ?_
      clear f2 ht' t'
      rintro t H n f2
      refine Stk.run 1 (fun t H n => t 2 = .ssl (encs c97 ([] : (List api_Term))) ([] : (List api_Term)).length false ∧ t 3 = .sc (.int .i64 0)) (fun J hJ => ?_) ?_
      · simp [-splice, f2]
        exact hJ _ _ _ ⟨by simp [f2], by simp [-splice, f2]⟩
      clear f2
      rintro t H n ⟨f2, f3⟩
      refine Stk.on ?_
      refine Stk.rt ?_
      have hq := Option.some.inj h; subst hq
      exact (hr _ _ _ (.tup [.ssl (encs c97 ([] : (List api_Term))) ([] : (List api_Term)).length false, .sc (.int .i64 0)]) ([]) (by simp [f2, f3]) (.inr (.inr (.tup (.cons (.free (freeL_encs fr97 _)) (.cons (.free (rfl)) (.nil))))))).1
    · have h := cF hb2 h
      refine Stk.sk ?_
      refine Stk.sq ?_
      refine Stk.rg ?_
      refine Stk.run 1 (fun t H n => t 8 = .sc (.int .i64 a0)) (fun J hJ => ?_) ?_
      · simp [-splice, f0, f7]
        exact hJ _ _ _ (by simp [-splice, f0, f7])
      clear f0 f7
      rintro t H n f8
      refine Stk.ov (vop_build T.t97 rfl rfl (cs := c97 (api_Term.mk (Arr.rep 12 0) 0)) (cs' := c97 (api_Term.mk (Arr.rep 12 0) a0)) rfl (.cons f8 rfl rfl rfl rfl (rfl) (by rw [len97]; decide) (st_97_12_2 _ _) (.nil))) (by simp [f8]) rfl (fun t' ht' => ?_)
      refine Stk.gen (fun t H n => t 9 = .agg (c97 (api_Term.mk (Arr.rep 12 0) a0))) (by simp [ht']) ?_
      clear f8 ht' t'
      rintro t H n f9
      refine Stk.om (mop_buildN (c := c97) (z := 13) T.t37 rfl T.t97 rfl (by decide) rfl (by decide) [(api_Term.mk (Arr.rep 12 0) a0)] rfl (.cons f9 rfl rfl rfl (len97 _) (by simp [length_encs]) (splice_next (c := c97) [] _ (api_Term.mk (Arr.rep 12 0) a0) rfl (by simp)) (.nil))) (by simp [f9]) rfl (fun t' ht' => ?_)
      refine Stk.gen (fun t H n => ∃ b3, t 10 = .osl b3 0 ([(api_Term.mk (Arr.rep 12 0) a0)] : List api_Term).length (some ([(api_Term.mk (Arr.rep 12 0) a0)] : List api_Term).length) ∧ H b3 = some (.cells (encs c97 ([(api_Term.mk (Arr.rep 12 0) a0)] : List api_Term)) 97) ∧ b3 < n) ⟨n, by simp [ht'], upd_same _ _ _, Nat.lt_succ_self _⟩ ?_
      clear f9 ht' t'
      rintro t H n ⟨b3, f10, b_b3, l_b3⟩
      refine Stk.run 2 (fun t H n => t 2 = .osl b3 0 ([(api_Term.mk (Arr.rep 12 0) a0)] : List api_Term).length (some ([(api_Term.mk (Arr.rep 12 0) a0)] : List api_Term).length) ∧ t 3 = .sc (.int .i64 0) ∧ H b3 = some (.cells (encs c97 ([(api_Term.mk (Arr.rep 12 0) a0)] : List api_Term)) 97) ∧ b3 < n) (fun J hJ => ?_) ?_
      · simp [-splice, f10, b_b3]
        exact hJ _ _ _ ⟨by simp [-splice, f10, b_b3], by simp [-splice, f10, b_b3], b_b3, l_b3⟩
      clear f10 b_b3 l_b3
      rintro t H n ⟨f2, f3, b_b3, l_b3⟩
      refine Stk.wkf trivial [b3] 2 (.ssl (encs c97 ([(api_Term.mk (Arr.rep 12 0) a0)] : List api_Term)) ([(api_Term.mk (Arr.rep 12 0) a0)] : List api_Term).length false) (by rw [f2]; exact .inr (.inr (view_row fr97 b_b3 (by simp) _))) (fun t' H' ht' hH' => ?_)
      refine Stk.gen (fun t H n => t 2 = .ssl (encs c97 ([(api_Term.mk (Arr.rep 12 0) a0)] : List api_Term)) ([(api_Term.mk (Arr.rep 12 0) a0)] : List api_Term).length false ∧ t 3 = .sc (.int .i64 0)) ⟨by simp [ht', f2], by simp [ht', f3]⟩ ?_
      clear f2 f3 b_b3 l_b3 hH' ht' t' H'
      rintro t H n ⟨f2, f3⟩
      refine Stk.on ?_
      refine Stk.rt ?_
      have hq := Option.some.inj h; subst hq
      exact (hr _ _ _ (.tup [.ssl (encs c97 ([(api_Term.mk (Arr.rep 12 0) a0)] : List api_Term)) ([(api_Term.mk (Arr.rep 12 0) a0)] : List api_Term).length false, .sc (.int .i64 0)]) ([]) (by simp [f2, f3]) (.inr (.inr (.tup (.cons (.free (freeL_encs fr97 _)) (.cons (.free (rfl)) (.nil))))))).1
theorem ok_R13_Var (F : Nat) (a0 : Int) (r : ((List api_Term) × Int)) (h : R13_Var F a0 = some r) : RunF Try.prog T.T 34 [.sc (.int .i64 a0)] (.tup [.ssl (encs c97 r.1) r.1.length false, .sc (.int .i64 r.2)]) := by
  rw [R13_Var] at h
  refine RunF.z Try.func34 rfl rfl rfl rfl rfl (fun C hr => ?_)
  refine Stk.gen (fun t H n => t 0 = .sc (.int .i64 a0)) (by simp) ?_
  rintro t H n f0
  refine Stk.sq ?_
  refine Stk.rg ?_
  refine Stk.run 1 (fun t H n => t 0 = .sc (.int .i64 a0)) (fun J hJ => ?_) ?_
  · simp [-splice, f0]
    exact hJ _ _ _ (by simp [f0])
  clear f0
  rintro t H n f0
  refine Stk.run 1 (fun t H n => t 0 = .sc (.int .i64 a0)) (fun J hJ => ?_) ?_
  · simp [-splice, f0]
    exact hJ _ _ _ (by simp [f0])
  clear f0
  rintro t H n f0
  refine Stk.on ?_
  refine Stk.sq ?_
  refine Stk.sq ?_
  refine Stk.rg ?_
  refine Stk.run 3 (fun t H n => t 0 = .sc (.int .i64 a0) ∧ t 7 = .sc (.bool (decide (a0 < 0)))) (fun J hJ => ?_) ?_
  · simp [-splice, f0]
    exact hJ _ _ _ ⟨by simp [f0], by simp [-splice, f0]⟩
  clear f0
  rintro t H n ⟨f0, f7⟩
  refine Stk.jo 3 (fun t H n => t 0 = .sc (.int .i64 a0) ∧ t 10 = .sc (.bool ((decide (a0 < 0)) || (decide (12 ≤ a0))))) (fun J1 hJ1 => ?_) ?_
  · rcases Bool.eq_false_or_eq_true (decide (a0 < 0)) with hb1 | hb1
    · rw [hb1] at f7
      refine Stk.run 3 (fun t H n => t 0 = .sc (.int .i64 a0) ∧ t 10 = .sc (.bool true)) (fun J hJ => ?_) ?_
      · simp [-splice, f0, f7]
        exact hJ _ _ _ ⟨by simp [f0], by simp [-splice, f0, f7]⟩
      clear f0 f7
      rintro t H n ⟨f0, f10⟩
      refine Stk.on ?_
      exact Stk.ln 0 (by decide) (hJ1 _ _ _ ⟨f0, f10.trans (congrArg (fun q => AV.sc (.bool q)) (by rw [hb1]; rfl))⟩)
    · rw [hb1] at f7
      refine Stk.run 3 (fun t H n => t 0 = .sc (.int .i64 a0) ∧ t 10 = .sc (.bool (decide (12 ≤ a0)))) (fun J hJ => ?_) ?_
      · simp [-splice, f0, f7]
        exact hJ _ _ _ ⟨by simp [f0], by simp [-splice, f0, f7]⟩
      clear f0 f7
      rintro t H n ⟨f0, f10⟩
      refine Stk.on ?_
      exact Stk.ln 0 (by decide) (hJ1 _ _ _ ⟨f0, f10.trans (congrArg (fun q => AV.sc (.bool q)) (by rw [hb1]; rfl))⟩)
  clear f0 f7
  rintro t H n ⟨f0, f10⟩
  refine Stk.on ?_
  refine Stk.cond ((decide (a0 < 0)) || (decide (12 ≤ a0))) (by exact f10) (fun hb1 => ?_) (fun hb1 => ?_)
  · have h := cT hb1 h
    refine Stk.sq ?_
    refine Stk.rg ?_
    refine Stk.run 1 (fun t H n => t 2 = .sc (.slice none 0 0)) (fun J hJ => ?_) ?_
    · simp [-splice, f0, f10]
      exact hJ _ _ _ (by simp [-splice, f0, f10])
    clear f0 f10
    rintro t H n f2
    refine Stk.wk trivial 2 (.ssl (encs c97 ([] : (List api_Term))) ([] : (List api_Term)).length false) (by rw [f2]; exact .inr (.inr .nilS)) (fun t' ht' => ?_)
    refine Stk.gen (fun t H n => t 2 = .ssl (encs c97 ([] : (List api_Term))) ([] : (List api_Term)).length false) (by simp [ht', f2]) ?_
    clear f2 ht' t'
    rintro t H n f2
    refine Stk.run 1 (fun t H n => t 2 = .ssl (encs c97 ([] : (List api_Term))) ([] : (List api_Term)).length false ∧ t 3 = .sc (.int .i64 20)) (fun J hJ => ?_) ?_
    · simp [-splice, f2]
      exact hJ _ _ _ ⟨by simp [f2], by simp [-splice, f2]⟩
    clear f2
    rintro t H n ⟨f2, f3⟩
    refine Stk.on ?_
    refine Stk.rt ?_
    have hq := Option.some.inj h; subst hq
    exact (hr _ _ _ (.tup [.ssl (encs c97 ([] : (List api_Term))) ([] : (List api_Term)).length false, .sc (.int .i64 20)]) ([]) (by simp [f2, f3]) (.inr (.inr (.tup (.cons (.free (freeL_encs fr97 _)) (.cons (.free (rfl)) (.nil))))))).1
  · have h := cF hb1 h
    refine Stk.sk ?_
    refine Stk.sq ?_
    refine Stk.rg ?_
    refine Stk.ov (vop_build T.t97 rfl rfl (cs := c97 (api_Term.mk (Arr.rep 12 0) 0)) (cs' := c97 (api_Term.mk (Arr.rep 12 0) 1)) rfl (.cons rfl rfl rfl rfl rfl (rfl) (by rw [len97]; decide) (st_97_12_2 _ _) (.nil))) (by simp [f0, f10]) rfl (fun t' ht' => ?_)
    refine Stk.gen (fun t H n => t 0 = .sc (.int .i64 a0) ∧ t 11 = .agg (c97 (api_Term.mk (Arr.rep 12 0) 1))) ⟨by simp [ht', f0], by simp [ht']⟩ ?_
    clear f0 f10 ht' t'
    rintro t H n ⟨f0, f11⟩
    refine Stk.om (mop_alloc T.t97 (cs := c97 (api_Term.mk (Arr.rep 12 0) 0)) rfl) (by simp [f0, f11]) rfl (fun t' ht' => ?_)
    refine Stk.gen (fun t H n => ∃ b2, t 0 = .sc (.int .i64 a0) ∧ t 4 = .own b2 0 ∧ t 11 = .agg (c97 (api_Term.mk (Arr.rep 12 0) 1)) ∧ H b2 = some (.cells (c97 (api_Term.mk (Arr.rep 12 0) 0)) 97) ∧ b2 < n) ⟨n, by simp [ht', f0], by simp [ht'], by simp [ht', f11], upd_same _ _ _, Nat.lt_succ_self _⟩ ?_
    clear f0 f11 ht' t'
    rintro t H n ⟨b2, f0, f4, f11, b_b2, l_b2⟩
    refine Stk.om (mop_store (z := 13) rfl f4 b_b2 f11 (len97 _) (by rw [len97]; decide) (ok97 _) (st_97_0_97 _ _)) (by simp [f0, f4, f11]) rfl (fun t' ht' => ?_)
    refine Stk.gen (fun t H n => t 0 = .sc (.int .i64 a0) ∧ t 4 = .own b2 0 ∧ H b2 = some (.cells (c97 (api_Term.mk (Arr.rep 12 0) 1)) 97) ∧ b2 < n) ⟨by simp [ht', f0], by simp [ht', f4], upd_same _ _ _, l_b2⟩ ?_
    clear f0 f4 f11 b_b2 l_b2 ht' t'
    rintro t H n ⟨f0, f4, b_b2, l_b2⟩
    refine Stk.on ?_
    refine Stk.sq ?_
    refine Stk.rg ?_
    obtain ⟨x3, hx3, h⟩ := bnd h
    obtain ⟨i0x3, i1x3, i2x3, _⟩ := idx_ok hx3
    have i3x3 : a0 < 12 := by rw [((api_Term.mk (Arr.rep 12 0) 1).Exps).2] at i1x3; exact i1x3
    have i4x3 : a0.toNat < 12 := by omega
    refine Stk.run 3 (fun t H n => t 4 = .own b2 0 ∧ t 14 = .own b2 (a0.toNat) ∧ H b2 = some (.cells (c97 (api_Term.mk (Arr.rep 12 0) 1)) 97) ∧ b2 < n) (fun J hJ => ?_) ?_
    · simp [-splice, f0, f4, b_b2, i0x3, i1x3, i3x3, i4x3]
      exact hJ _ _ _ ⟨by simp [f4], by simp [-splice, f0, f4, b_b2, i0x3, i1x3, i3x3, i4x3], b_b2, l_b2⟩
    clear f0 f4 b_b2 l_b2
    rintro t H n ⟨f4, f14, b_b2, l_b2⟩
    have sp : splice (c97 (api_Term.mk (Arr.rep 12 0) 1)) (a0.toNat) ([.sc (.int .u8 1)]) = c97 ({ (api_Term.mk (Arr.rep 12 0) 1) with Exps := (((api_Term.mk (Arr.rep 12 0) 1).Exps).set a0 1) }) := by
      rw [c97, c97]
      rw [splice_head (by rw [Enc.len (e := c95)]; simp; omega)]
      congr 1
      rw [c95, c95, Arr.set]
      have e0 := splice_elem0 (e := c5) (z := 1) hx3
      simpa using e0 _
    refine Stk.om (mop_store (z := 1) rfl f14 b_b2 rfl rfl (by rw [len97]; omega) rfl sp) (by simp [f4, f14]) rfl (fun t' ht' => ?_)
    refine Stk.gen (fun t H n => t 4 = .own b2 0 ∧ H b2 = some (.cells (c97 ({ (api_Term.mk (Arr.rep 12 0) 1) with Exps := (((api_Term.mk (Arr.rep 12 0) 1).Exps).set a0 1) })) 97) ∧ b2 < n) ⟨by simp [ht', f4], upd_same _ _ _, l_b2⟩ ?_
    clear f4 f14 b_b2 l_b2 sp ht' t'
    rintro t H n ⟨f4, b_b2, l_b2⟩
    refine Stk.on ?_
    refine Stk.sq ?_
    refine Stk.rg ?_
    refine Stk.run 1 (fun t H n => t 15 = .agg (c97 ({ (api_Term.mk (Arr.rep 12 0) 1) with Exps := (((api_Term.mk (Arr.rep 12 0) 1).Exps).set a0 1) }))) (fun J hJ => ?_) ?_
    · simp [-splice, f4, b_b2, ld_97_0_97]
      exact hJ _ _ _ (by simp [-splice, f4, b_b2, ld_97_0_97])
    clear f4 b_b2 l_b2
    rintro t H n f15
    refine Stk.om (mop_buildN (c := c97) (z := 13) T.t37 rfl T.t97 rfl (by decide) rfl (by decide) [{ (api_Term.mk (Arr.rep 12 0) 1) with Exps := (((api_Term.mk (Arr.rep 12 0) 1).Exps).set a0 1) }] rfl (.cons f15 rfl rfl rfl (len97 _) (by simp [length_encs]) (splice_next (c := c97) [] _ ({ (api_Term.mk (Arr.rep 12 0) 1) with Exps := (((api_Term.mk (Arr.rep 12 0) 1).Exps).set a0 1) }) rfl (by simp)) (.nil))) (by simp [f15]) rfl (fun t' ht' => ?_)
    refine Stk.gen (fun t H n => ∃ b4, t 16 = .osl b4 0 ([{ (api_Term.mk (Arr.rep 12 0) 1) with Exps := (((api_Term.mk (Arr.rep 12 0) 1).Exps).set a0 1) }] : List api_Term).length (some ([{ (api_Term.mk (Arr.rep 12 0) 1) with Exps := (((api_Term.mk (Arr.rep 12 0) 1).Exps).set a0 1) }] : List api_Term).length) ∧ H b4 = some (.cells (encs c97 ([{ (api_Term.mk (Arr.rep 12 0) 1) with Exps := (((api_Term.mk (Arr.rep 12 0) 1).Exps).set a0 1) }] : List api_Term)) 97) ∧ b4 < n) ⟨n, by simp [ht'], upd_same _ _ _, Nat.lt_succ_self _⟩ ?_
    clear f15 ht' t'
    rintro t H n ⟨b4, f16, b_b4, l_b4⟩
    refine Stk.run 2 (fun t H n => t 2 = .osl b4 0 ([{ (api_Term.mk (Arr.rep 12 0) 1) with Exps := (((api_Term.mk (Arr.rep 12 0) 1).Exps).set a0 1) }] : List api_Term).length (some ([{ (api_Term.mk (Arr.rep 12 0) 1) with Exps := (((api_Term.mk (Arr.rep 12 0) 1).Exps).set a0 1) }] : List api_Term).length) ∧ t 3 = .sc (.int .i64 0) ∧ H b4 = some (.cells (encs c97 ([{ (api_Term.mk (Arr.rep 12 0) 1) with Exps := (((api_Term.mk (Arr.rep 12 0) 1).Exps).set a0 1) }] : List api_Term)) 97) ∧ b4 < n) (fun J hJ => ?_) ?_
    · simp [-splice, f16, b_b4]
      exact hJ _ _ _ ⟨by simp [-splice, f16, b_b4], by simp [-splice, f16, b_b4], b_b4, l_b4⟩
    clear f16 b_b4 l_b4
    rintro t H n ⟨f2, f3, b_b4, l_b4⟩
    refine Stk.wkf trivial [b4] 2 (.ssl (encs c97 ([{ (api_Term.mk (Arr.rep 12 0) 1) with Exps := (((api_Term.mk (Arr.rep 12 0) 1).Exps).set a0 1) }] : List api_Term)) ([{ (api_Term.mk (Arr.rep 12 0) 1) with Exps := (((api_Term.mk (Arr.rep 12 0) 1).Exps).set a0 1) }] : List api_Term).length false) (by rw [f2]; exact .inr (.inr (view_row fr97 b_b4 (by simp) _))) (fun t' H' ht' hH' => ?_)
    refine Stk.gen (fun t H n => t 2 = .ssl (encs c97 ([{ (api_Term.mk (Arr.rep 12 0) 1) with Exps := (((api_Term.mk (Arr.rep 12 0) 1).Exps).set a0 1) }] : List api_Term)) ([{ (api_Term.mk (Arr.rep 12 0) 1) with Exps := (((api_Term.mk (Arr.rep 12 0) 1).Exps).set a0 1) }] : List api_Term).length false ∧ t 3 = .sc (.int .i64 0)) ⟨by simp [ht', f2], by simp [ht', f3]⟩ ?_
    clear f2 f3 b_b4 l_b4 hH' ht' t' H'
    rintro t H n ⟨f2, f3⟩
    refine Stk.on ?_
    refine Stk.rt ?_
    have hq := Option.some.inj h; subst hq
    exact (hr _ _ _ (.tup [.ssl (encs c97 ([{ (api_Term.mk (Arr.rep 12 0) 1) with Exps := (((api_Term.mk (Arr.rep 12 0) 1).Exps).set a0 1) }] : List api_Term)) ([{ (api_Term.mk (Arr.rep 12 0) 1) with Exps := (((api_Term.mk (Arr.rep 12 0) 1).Exps).set a0 1) }] : List api_Term).length false, .sc (.int .i64 0)]) ([]) (by simp [f2, f3]) (.inr (.inr (.tup (.cons (.free (freeL_encs fr97 _)) (.cons (.free (rfl)) (.nil))))))).1
end Go.Proofs.Ytfbkgjmpadknfaa.M
