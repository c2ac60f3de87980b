/-
  The functions come to them.
-/
import Derived.Test.YtfbkgjmpadknfaaGM
namespace Go.Proofs.Ytfbkgjmpadknfaa.M
open Go.Proofs.YtfbkgjmpadknfaaW.Ah Go.Proofs.Ytfbkgjmpadknfaa
set_option linter.unusedVariables false
set_option linter.unusedSimpArgs false
set_option maxRecDepth 8000
attribute [local simp] T.t2 T.t3 T.t4 T.t5 T.t50 T.t95 T.t97 T.t112 List.range List.range.loop
attribute [-simp] appendAV fillAV
theorem ok_cmp_isNaN_uint8 (F : Nat) (a0 : Int) (r : Bool) (h : cmp_isNaN_uint8 F a0 = some r) : RunF Try.prog T.T 109 [.sc (.int .u8 a0)] (.sc (.bool r)) := by
  rw [cmp_isNaN_uint8] at h
  refine RunF.z Try.func109 rfl rfl rfl rfl rfl (fun C hr => ?_)
  refine Stk.gen (fun t H n => t 0 = .sc (.int .u8 a0)) (by simp) ?_
  rintro t H n f0
  refine Stk.sq ?_
  refine Stk.rg ?_
  refine Stk.run 1 (fun t H n => t 0 = .sc (.int .u8 a0)) (fun J hJ => ?_) ?_
  · simp [-splice, f0]
    exact hJ _ _ _ (by simp [f0])
  clear f0
  rintro t H n f0
  refine Stk.on ?_
  refine Stk.sq ?_
  refine Stk.rg ?_
  refine Stk.run 4 (fun t H n => t 2 = .sc (.bool (a0 != a0))) (fun J hJ => ?_) ?_
  · simp [-splice, f0]
    exact hJ _ _ _ (by simp [-splice, f0])
  clear f0
  rintro t H n f2
  refine Stk.on ?_
  refine Stk.rt ?_
  have hq := Option.some.inj h; subst hq
  exact (hr _ _ _ (.sc (.bool (a0 != a0))) ([]) (by simp [f2]) (.inr (.inr (.free (rfl))))).1
theorem ok_cmp_Compare_uint8 (F : Nat) (a0 : Int) (a1 : Int) (r : Int) (h : cmp_Compare_uint8 F a0 a1 = some r) : RunF Try.prog T.T 102 [.sc (.int .u8 a0), .sc (.int .u8 a1)] (.sc (.int .i64 r)) := by
  rw [cmp_Compare_uint8] at h
  refine RunF.z Try.func102 rfl rfl rfl rfl rfl (fun C hr => ?_)
  refine Stk.gen (fun t H n => t 0 = .sc (.int .u8 a0) ∧ t 1 = .sc (.int .u8 a1)) ⟨by simp, by simp⟩ ?_
  rintro t H n ⟨f0, f1⟩
  refine Stk.sq ?_
  refine Stk.rg ?_
  refine Stk.run 1 (fun t H n => t 0 = .sc (.int .u8 a0) ∧ t 1 = .sc (.int .u8 a1)) (fun J hJ => ?_) ?_
  · simp [-splice, f0, f1]
    exact hJ _ _ _ ⟨by simp [f0], by simp [f1]⟩
  clear f0 f1
  rintro t H n ⟨f0, f1⟩
  refine Stk.on ?_
  refine Stk.sq ?_
  refine Stk.rg ?_
  refine Stk.run 1 (fun t H n => t 0 = .sc (.int .u8 a0) ∧ t 1 = .sc (.int .u8 a1) ∧ t 7 = .sc (.int .u8 a0)) (fun J hJ => ?_) ?_
  · simp [-splice, f0, f1]
    exact hJ _ _ _ ⟨by simp [f0], by simp [f1], by simp [-splice, f0, f1]⟩
  clear f0 f1
  rintro t H n ⟨f0, f1, f7⟩
  obtain ⟨x1, hx1, h⟩ := bnd h
  refine Stk.cv (g := 109) (args := [.sc (.int .u8 a0)]) (args' := [.sc (.int .u8 a0)]) (v := .sc (.bool x1)) [] (ok_cmp_isNaN_uint8 F _ _ hx1) (by simp [f0, f1, f7]) rfl rfl (by simp [f0, f1, f7]) (.cons (.free (rfl)) (.nil)) (.inl ⟨rfl, rfl⟩) (fun t' ht' => ?_)
  refine Stk.gen (fun t H n => t 0 = .sc (.int .u8 a0) ∧ t 1 = .sc (.int .u8 a1) ∧ t 8 = .sc (.bool x1)) ⟨by simp [ht', f0], by simp [ht', f1], by simp [ht']⟩ ?_
  clear f0 f1 f7 ht' t'
  rintro t H n ⟨f0, f1, f8⟩
  refine Stk.run 1 (fun t H n => t 0 = .sc (.int .u8 a0) ∧ t 1 = .sc (.int .u8 a1) ∧ t 5 = .sc (.bool x1)) (fun J hJ => ?_) ?_
  · simp [-splice, f0, f1, f8]
    exact hJ _ _ _ ⟨by simp [f0], by simp [f1], by simp [-splice, f0, f1, f8]⟩
  clear f0 f1 f8
  rintro t H n ⟨f0, f1, f5⟩
  refine Stk.on ?_
  refine Stk.sq ?_
  refine Stk.rg ?_
  refine Stk.run 1 (fun t H n => t 0 = .sc (.int .u8 a0) ∧ t 1 = .sc (.int .u8 a1) ∧ t 5 = .sc (.bool x1) ∧ t 9 = .sc (.int .u8 a1)) (fun J hJ => ?_) ?_
  · simp [-splice, f0, f1, f5]
    exact hJ _ _ _ ⟨by simp [f0], by simp [f1], by simp [f5], by simp [-splice, f0, f1, f5]⟩
  clear f0 f1 f5
  rintro t H n ⟨f0, f1, f5, f9⟩
  obtain ⟨x2, hx2, h⟩ := bnd h
  refine Stk.cv (g := 109) (args := [.sc (.int .u8 a1)]) (args' := [.sc (.int .u8 a1)]) (v := .sc (.bool x2)) [] (ok_cmp_isNaN_uint8 F _ _ hx2) (by simp [f0, f1, f5, f9]) rfl rfl (by simp [f0, f1, f5, f9]) (.cons (.free (rfl)) (.nil)) (.inl ⟨rfl, rfl⟩) (fun t' ht' => ?_)
  refine Stk.gen (fun t H n => t 0 = .sc (.int .u8 a0) ∧ t 1 = .sc (.int .u8 a1) ∧ t 5 = .sc (.bool x1) ∧ t 10 = .sc (.bool x2)) ⟨by simp [ht', f0], by simp [ht', f1], by simp [ht', f5], by simp [ht']⟩ ?_
  clear f0 f1 f5 f9 ht' t'
  rintro t H n ⟨f0, f1, f5, f10⟩
  refine Stk.run 1 (fun t H n => t 0 = .sc (.int .u8 a0) ∧ t 1 = .sc (.int .u8 a1) ∧ t 5 = .sc (.bool x1) ∧ t 6 = .sc (.bool x2)) (fun J hJ => ?_) ?_
  · simp [-splice, f0, f1, f5, f10]
    exact hJ _ _ _ ⟨by simp [f0], by simp [f1], by simp [f5], by simp [-splice, f0, f1, f5, f10]⟩
  clear f0 f1 f5 f10
  rintro t H n ⟨f0, f1, f5, f6⟩
  refine Stk.on ?_
  refine Stk.sq ?_
  refine Stk.sq ?_
  refine Stk.rg ?_
  refine Stk.run 1 (fun t H n => t 0 = .sc (.int .u8 a0) ∧ t 1 = .sc (.int .u8 a1) ∧ t 6 = .sc (.bool x2) ∧ t 11 = .sc (.bool x1)) (fun J hJ => ?_) ?_
  · simp [-splice, f0, f1, f5, f6]
    exact hJ _ _ _ ⟨by simp [f0], by simp [f1], by simp [f6], by simp [-splice, f0, f1, f5, f6]⟩
  clear f0 f1 f5 f6
  rintro t H n ⟨f0, f1, f6, f11⟩
  refine Stk.on ?_
  refine Stk.cond x1 (by exact f11) (fun hb3 => ?_) (fun hb3 => ?_)
  · have h := cT hb3 h
    refine Stk.sq ?_
    refine Stk.sq ?_
    refine Stk.rg ?_
    refine Stk.run 1 (fun t H n => t 12 = .sc (.bool x2)) (fun J hJ => ?_) ?_
    · simp [-splice, f0, f1, f6, f11]
      exact hJ _ _ _ (by simp [-splice, f0, f1, f6, f11])
    clear f0 f1 f6 f11
    rintro t H n f12
    refine Stk.on ?_
    refine Stk.cond x2 (by exact f12) (fun hb4 => ?_) (fun hb4 => ?_)
    · have h := cT hb4 h
      refine Stk.sq ?_
      refine Stk.rg ?_
      refine Stk.run 1 (fun t H n => t 4 = .sc (.int .i64 0)) (fun J hJ => ?_) ?_
      · simp [-splice, f12]
        exact hJ _ _ _ (by simp [-splice, f12])
      clear f12
      rintro t H n f4
      refine Stk.on ?_
      refine Stk.rt ?_
      have hq := Option.some.inj h; subst hq
      exact (hr _ _ _ (.sc (.int .i64 0)) ([]) (by simp [f4]) (.inr (.inr (.free (rfl))))).1
    · have h := cF hb4 h
      refine Stk.sk ?_
      refine Stk.sq ?_
      refine Stk.rg ?_
      refine Stk.run 1 (fun t H n => t 4 = .sc (.int .i64 (-1))) (fun J hJ => ?_) ?_
      · simp [-splice, f12]
        exact hJ _ _ _ (by simp [-splice, f12])
      clear f12
      rintro t H n f4
      refine Stk.on ?_
      refine Stk.rt ?_
      have hq := Option.some.inj h; subst hq
      exact (hr _ _ _ (.sc (.int .i64 (-1))) ([]) (by simp [f4]) (.inr (.inr (.free (rfl))))).1
  · have h := cF hb3 h
    refine Stk.sk ?_
    refine Stk.sq ?_
    refine Stk.sq ?_
    refine Stk.rg ?_
    refine Stk.run 1 (fun t H n => t 0 = .sc (.int .u8 a0) ∧ t 1 = .sc (.int .u8 a1) ∧ t 13 = .sc (.bool x2)) (fun J hJ => ?_) ?_
    · simp [-splice, f0, f1, f6, f11]
      exact hJ _ _ _ ⟨by simp [f0], by simp [f1], by simp [-splice, f0, f1, f6, f11]⟩
    clear f0 f1 f6 f11
    rintro t H n ⟨f0, f1, f13⟩
    refine Stk.on ?_
    refine Stk.cond x2 (by exact f13) (fun hb5 => ?_) (fun hb5 => ?_)
    · have h := cT hb5 h
      refine Stk.sq ?_
      refine Stk.rg ?_
      refine Stk.run 1 (fun t H n => t 4 = .sc (.int .i64 1)) (fun J hJ => ?_) ?_
      · simp [-splice, f0, f1, f13]
        exact hJ _ _ _ (by simp [-splice, f0, f1, f13])
      clear f0 f1 f13
      rintro t H n f4
      refine Stk.on ?_
      refine Stk.rt ?_
      have hq := Option.some.inj h; subst hq
      exact (hr _ _ _ (.sc (.int .i64 1)) ([]) (by simp [f4]) (.inr (.inr (.free (rfl))))).1
    · have h := cF hb5 h
      refine Stk.sk ?_
      refine Stk.sq ?_
      refine Stk.sq ?_
      refine Stk.rg ?_
      refine Stk.run 3 (fun t H n => t 0 = .sc (.int .u8 a0) ∧ t 1 = .sc (.int .u8 a1) ∧ t 16 = .sc (.bool (decide (a0 < a1)))) (fun J hJ => ?_) ?_
      · simp [-splice, f0, f1, f13]
        exact hJ _ _ _ ⟨by simp [f0], by simp [f1], by simp [-splice, f0, f1, f13]⟩
      clear f0 f1 f13
      rintro t H n ⟨f0, f1, f16⟩
      refine Stk.on ?_
      refine Stk.cond (decide (a0 < a1)) (by exact f16) (fun hb6 => ?_) (fun hb6 => ?_)
      · have h := cT hb6 h
        refine Stk.sq ?_
        refine Stk.rg ?_
        refine Stk.run 1 (fun t H n => t 4 = .sc (.int .i64 (-1))) (fun J hJ => ?_) ?_
        · simp [-splice, f0, f1, f16]
          exact hJ _ _ _ (by simp [-splice, f0, f1, f16])
        clear f0 f1 f16
        rintro t H n f4
        refine Stk.on ?_
        refine Stk.rt ?_
        have hq := Option.some.inj h; subst hq
        exact (hr _ _ _ (.sc (.int .i64 (-1))) ([]) (by simp [f4]) (.inr (.inr (.free (rfl))))).1
      · have h := cF hb6 h
        refine Stk.sk ?_
        refine Stk.sq ?_
        refine Stk.sq ?_
        refine Stk.rg ?_
        refine Stk.run 3 (fun t H n => t 19 = .sc (.bool (decide (a1 < a0)))) (fun J hJ => ?_) ?_
        · simp [-splice, f0, f1, f16]
          exact hJ _ _ _ (by simp [-splice, f0, f1, f16])
        clear f0 f1 f16
        rintro t H n f19
        refine Stk.on ?_
        refine Stk.cond (decide (a1 < a0)) (by exact f19) (fun hb7 => ?_) (fun hb7 => ?_)
        · have h := cT hb7 h
          refine Stk.sq ?_
          refine Stk.rg ?_
          refine Stk.run 1 (fun t H n => t 4 = .sc (.int .i64 1)) (fun J hJ => ?_) ?_
          · simp [-splice, f19]
            exact hJ _ _ _ (by simp [-splice, f19])
          clear f19
          rintro t H n f4
          refine Stk.on ?_
          refine Stk.rt ?_
          have hq := Option.some.inj h; subst hq
          exact (hr _ _ _ (.sc (.int .i64 1)) ([]) (by simp [f4]) (.inr (.inr (.free (rfl))))).1
        · have h := cF hb7 h
          refine Stk.sk ?_
          refine Stk.sq ?_
          refine Stk.rg ?_
          refine Stk.run 1 (fun t H n => t 4 = .sc (.int .i64 0)) (fun J hJ => ?_) ?_
          · simp [-splice, f19]
            exact hJ _ _ _ (by simp [-splice, f19])
          clear f19
          rintro t H n f4
          refine Stk.on ?_
          refine Stk.rt ?_
          have hq := Option.some.inj h; subst hq
          exact (hr _ _ _ (.sc (.int .i64 0)) ([]) (by simp [f4]) (.inr (.inr (.free (rfl))))).1
theorem ok_slices_Compare_uint8_uint8 (F : Nat) (a0 : (List Int)) (a1 : (List Int)) (r : Int) (h : slices_Compare_uint8_uint8 F a0 a1 = some r) : RunF Try.prog T.T 91 [.ssl (encs c5 a0) a0.length false, .ssl (encs c5 a1) a1.length false] (.sc (.int .i64 r)) := by
  rw [slices_Compare_uint8_uint8] at h
  refine RunF.z Try.func91 rfl rfl rfl rfl rfl (fun C hr => ?_)
  refine Stk.gen (fun t H n => t 0 = .ssl (encs c5 a0) a0.length false ∧ t 1 = .ssl (encs c5 a1) a1.length false) ⟨by simp, by simp⟩ ?_
  rintro t H n ⟨f0, f1⟩
  refine Stk.sq ?_
  refine Stk.rg ?_
  refine Stk.run 1 (fun t H n => t 0 = .ssl (encs c5 a0) a0.length false ∧ t 1 = .ssl (encs c5 a1) a1.length false) (fun J hJ => ?_) ?_
  · simp [-splice, f0, f1]
    exact hJ _ _ _ ⟨by simp [f0], by simp [f1]⟩
  clear f0 f1
  rintro t H n ⟨f0, f1⟩
  refine Stk.on ?_
  refine Stk.sq ?_
  refine Stk.sq ?_
  refine Stk.rg ?_
  refine Stk.run 3 (fun t H n => t 0 = .ssl (encs c5 a0) a0.length false ∧ t 1 = .ssl (encs c5 a1) a1.length false ∧ t 9 = .ssl (encs c5 a0) a0.length false ∧ t 10 = .sc (.int .i64 (a0.length : Int)) ∧ t 11 = .sc (.int .i64 0)) (fun J hJ => ?_) ?_
  · simp [-splice, f0, f1]
    exact hJ _ _ _ ⟨by simp [f0], by simp [f1], by simp [-splice, f0, f1], by simp [-splice, f0, f1], by simp [-splice, f0, f1]⟩
  clear f0 f1
  rintro t H n ⟨f0, f1, f9, f10, f11⟩
  refine Stk.on ?_
  obtain ⟨K1, hK1, h⟩ := jnd h
  refine Stk.jn (fun t H n => K1 () = some r ∧ t 0 = .ssl (encs c5 a0) a0.length false ∧ t 1 = .ssl (encs c5 a1) a1.length false) trivial (fun J1 hJ1 => ?_) ?_
  · skip
    refine Stk.bk ?_
    refine Stk.lo (fun μ t H n => ∃ v1 : Int, slices_Compare_uint8_uint8_L0 F a0 a1 K1 μ v1 = some r ∧ t 0 = .ssl (encs c5 a0) a0.length false ∧ t 1 = .ssl (encs c5 a1) a1.length false ∧ t 9 = .ssl (encs c5 a0) a0.length false ∧ t 10 = .sc (.int .i64 (a0.length : Int)) ∧ t 11 = .sc (.int .i64 v1)) F ⟨0, h, f0, f1, f9, f10, f11⟩ ?_
    clear h f0 f1 f9 f10 f11
    rintro J2 hJ2 μ t H n ⟨v1, h, f0, f1, f9, f10, f11⟩
    cases μ with
    | zero => exact absurd h (by simp [slices_Compare_uint8_uint8_L0])
    | succ μ =>
    rw [slices_Compare_uint8_uint8_L0] at h
    refine Stk.sq ?_
    refine Stk.rg ?_
    refine Stk.run 1 (fun t H n => t 0 = .ssl (encs c5 a0) a0.length false ∧ t 1 = .ssl (encs c5 a1) a1.length false ∧ t 9 = .ssl (encs c5 a0) a0.length false ∧ t 10 = .sc (.int .i64 (a0.length : Int)) ∧ t 11 = .sc (.int .i64 v1) ∧ t 12 = .sc (.bool (decide (v1 < (a0.length : Int))))) (fun J hJ => ?_) ?_
    · simp [-splice, f0, f1, f9, f10, f11]
      exact hJ _ _ _ ⟨by simp [f0], by simp [f1], by simp [f9], by simp [f10], by simp [f11], by simp [-splice, f0, f1, f9, f10, f11]⟩
    clear f0 f1 f9 f10 f11
    rintro t H n ⟨f0, f1, f9, f10, f11, f12⟩
    refine Stk.on ?_
    refine Stk.sq ?_
    refine Stk.cond (decide (v1 < (a0.length : Int))) (by exact f12) (fun hb3 => ?_) (fun hb3 => ?_)
    · have h := cT hb3 h
      refine Stk.sk ?_
      refine Stk.sq ?_
      refine Stk.bk ?_
      refine Stk.sq ?_
      refine Stk.rg ?_
      obtain ⟨x4, hx4, h⟩ := bnd h
      obtain ⟨i0x4, i1x4, i2x4, _⟩ := idx_ok hx4
      have ex4_0_5 : partOf T.T 5 (encs c5 a0) (v1.toNat) = some (.sc (.int .u8 x4)) := by
          have e0 := part_elem0 (e := c5) (z := 1) (T := T.T) (ty := 5) T.t5 (by decide) (by decide) hx4 0 (by decide)
          (try simp only [Nat.mul_one, Nat.add_zero] at e0)
          exact e0.trans rfl
      refine Stk.run 5 (fun t H n => t 0 = .ssl (encs c5 a0) a0.length false ∧ t 1 = .ssl (encs c5 a1) a1.length false ∧ t 5 = .sc (.int .i64 v1) ∧ t 6 = .sc (.int .u8 x4) ∧ t 9 = .ssl (encs c5 a0) a0.length false ∧ t 10 = .sc (.int .i64 (a0.length : Int)) ∧ t 11 = .sc (.int .i64 v1)) (fun J hJ => ?_) ?_
      · simp [-splice, f0, f1, f9, f10, f11, f12, i0x4, i1x4, pd5, ex4_0_5]
        exact hJ _ _ _ ⟨by simp [f0], by simp [f1], by simp [-splice, f0, f1, f9, f10, f11, f12, i0x4, i1x4, pd5, ex4_0_5], by simp [-splice, f0, f1, f9, f10, f11, f12, i0x4, i1x4, pd5, ex4_0_5], by simp [f9], by simp [f10], by simp [f11]⟩
      clear f0 f1 f9 f10 f11 f12
      rintro t H n ⟨f0, f1, f5, f6, f9, f10, f11⟩
      refine Stk.on ?_
      refine Stk.sq ?_
      refine Stk.sq ?_
      refine Stk.rg ?_
      refine Stk.run 4 (fun t H n => t 0 = .ssl (encs c5 a0) a0.length false ∧ t 1 = .ssl (encs c5 a1) a1.length false ∧ t 5 = .sc (.int .i64 v1) ∧ t 6 = .sc (.int .u8 x4) ∧ t 9 = .ssl (encs c5 a0) a0.length false ∧ t 10 = .sc (.int .i64 (a0.length : Int)) ∧ t 11 = .sc (.int .i64 v1) ∧ t 19 = .sc (.bool (decide ((a1.length : Int) ≤ v1)))) (fun J hJ => ?_) ?_
      · simp [-splice, f0, f1, f5, f6, f9, f10, f11]
        exact hJ _ _ _ ⟨by simp [f0], by simp [f1], by simp [f5], by simp [f6], by simp [f9], by simp [f10], by simp [f11], by simp [-splice, f0, f1, f5, f6, f9, f10, f11]⟩
      clear f0 f1 f5 f6 f9 f10 f11
      rintro t H n ⟨f0, f1, f5, f6, f9, f10, f11, f19⟩
      refine Stk.on ?_
      refine Stk.cond (decide ((a1.length : Int) ≤ v1)) (by exact f19) (fun hb5 => ?_) (fun hb5 => ?_)
      · have h := cT hb5 h
        refine Stk.sq ?_
        refine Stk.rg ?_
        refine Stk.run 1 (fun t H n => t 4 = .sc (.int .i64 1)) (fun J hJ => ?_) ?_
        · simp [-splice, f0, f1, f5, f6, f9, f10, f11, f19]
          exact hJ _ _ _ (by simp [-splice, f0, f1, f5, f6, f9, f10, f11, f19])
        clear f0 f1 f5 f6 f9 f10 f11 f19
        rintro t H n f4
        refine Stk.on ?_
        refine Stk.rt ?_
        have hq := Option.some.inj h; subst hq
        exact (hr _ _ _ (.sc (.int .i64 1)) ([]) (by simp [f4]) (.inr (.inr (.free (rfl))))).1
      · have h := cF hb5 h
        refine Stk.sk ?_
        refine Stk.sq ?_
        refine Stk.rg ?_
        obtain ⟨x6, hx6, h⟩ := bnd h
        obtain ⟨i0x6, i1x6, i2x6, _⟩ := idx_ok hx6
        have ex6_0_5 : partOf T.T 5 (encs c5 a1) (v1.toNat) = some (.sc (.int .u8 x6)) := by
            have e0 := part_elem0 (e := c5) (z := 1) (T := T.T) (ty := 5) T.t5 (by decide) (by decide) hx6 0 (by decide)
            (try simp only [Nat.mul_one, Nat.add_zero] at e0)
            exact e0.trans rfl
        refine Stk.run 5 (fun t H n => t 0 = .ssl (encs c5 a0) a0.length false ∧ t 1 = .ssl (encs c5 a1) a1.length false ∧ t 6 = .sc (.int .u8 x4) ∧ t 7 = .sc (.int .u8 x6) ∧ t 9 = .ssl (encs c5 a0) a0.length false ∧ t 10 = .sc (.int .i64 (a0.length : Int)) ∧ t 11 = .sc (.int .i64 v1)) (fun J hJ => ?_) ?_
        · simp [-splice, f0, f1, f5, f6, f9, f10, f11, f19, i0x6, i1x6, pd5, ex6_0_5]
          exact hJ _ _ _ ⟨by simp [f0], by simp [f1], by simp [f6], by simp [-splice, f0, f1, f5, f6, f9, f10, f11, f19, i0x6, i1x6, pd5, ex6_0_5], by simp [f9], by simp [f10], by simp [f11]⟩
        clear f0 f1 f5 f6 f9 f10 f11 f19
        rintro t H n ⟨f0, f1, f6, f7, f9, f10, f11⟩
        refine Stk.on ?_
        refine Stk.sq ?_
        refine Stk.rg ?_
        refine Stk.run 2 (fun t H n => t 0 = .ssl (encs c5 a0) a0.length false ∧ t 1 = .ssl (encs c5 a1) a1.length false ∧ t 9 = .ssl (encs c5 a0) a0.length false ∧ t 10 = .sc (.int .i64 (a0.length : Int)) ∧ t 11 = .sc (.int .i64 v1) ∧ t 24 = .sc (.int .u8 x4) ∧ t 25 = .sc (.int .u8 x6)) (fun J hJ => ?_) ?_
        · simp [-splice, f0, f1, f6, f7, f9, f10, f11]
          exact hJ _ _ _ ⟨by simp [f0], by simp [f1], by simp [f9], by simp [f10], by simp [f11], by simp [-splice, f0, f1, f6, f7, f9, f10, f11], by simp [-splice, f0, f1, f6, f7, f9, f10, f11]⟩
        clear f0 f1 f6 f7 f9 f10 f11
        rintro t H n ⟨f0, f1, f9, f10, f11, f24, f25⟩
        obtain ⟨x7, hx7, h⟩ := bnd h
        refine Stk.cv (g := 102) (args := [.sc (.int .u8 x4), .sc (.int .u8 x6)]) (args' := [.sc (.int .u8 x4), .sc (.int .u8 x6)]) (v := .sc (.int .i64 x7)) [] (ok_cmp_Compare_uint8 F _ _ _ hx7) (by simp [f0, f1, f9, f10, f11, f24, f25]) rfl rfl (by simp [f0, f1, f9, f10, f11, f24, f25]) (.cons (.free (rfl)) (.cons (.free (rfl)) (.nil))) (.inl ⟨rfl, rfl⟩) (fun t' ht' => ?_)
        refine Stk.gen (fun t H n => t 0 = .ssl (encs c5 a0) a0.length false ∧ t 1 = .ssl (encs c5 a1) a1.length false ∧ t 9 = .ssl (encs c5 a0) a0.length false ∧ t 10 = .sc (.int .i64 (a0.length : Int)) ∧ t 11 = .sc (.int .i64 v1) ∧ t 26 = .sc (.int .i64 x7)) ⟨by simp [ht', f0], by simp [ht', f1], by simp [ht', f9], by simp [ht', f10], by simp [ht', f11], by simp [ht']⟩ ?_
        clear f0 f1 f9 f10 f11 f24 f25 ht' t'
        rintro t H n ⟨f0, f1, f9, f10, f11, f26⟩
        refine Stk.run 1 (fun t H n => t 0 = .ssl (encs c5 a0) a0.length false ∧ t 1 = .ssl (encs c5 a1) a1.length false ∧ t 8 = .sc (.int .i64 x7) ∧ t 9 = .ssl (encs c5 a0) a0.length false ∧ t 10 = .sc (.int .i64 (a0.length : Int)) ∧ t 11 = .sc (.int .i64 v1)) (fun J hJ => ?_) ?_
        · simp [-splice, f0, f1, f9, f10, f11, f26]
          exact hJ _ _ _ ⟨by simp [f0], by simp [f1], by simp [-splice, f0, f1, f9, f10, f11, f26], by simp [f9], by simp [f10], by simp [f11]⟩
        clear f0 f1 f9 f10 f11 f26
        rintro t H n ⟨f0, f1, f8, f9, f10, f11⟩
        refine Stk.on ?_
        refine Stk.sq ?_
        refine Stk.rg ?_
        refine Stk.run 2 (fun t H n => t 0 = .ssl (encs c5 a0) a0.length false ∧ t 1 = .ssl (encs c5 a1) a1.length false ∧ t 8 = .sc (.int .i64 x7) ∧ t 9 = .ssl (encs c5 a0) a0.length false ∧ t 10 = .sc (.int .i64 (a0.length : Int)) ∧ t 11 = .sc (.int .i64 v1) ∧ t 28 = .sc (.bool (x7 != 0))) (fun J hJ => ?_) ?_
        · simp [-splice, f0, f1, f8, f9, f10, f11]
          exact hJ _ _ _ ⟨by simp [f0], by simp [f1], by simp [f8], by simp [f9], by simp [f10], by simp [f11], by simp [-splice, f0, f1, f8, f9, f10, f11]⟩
        clear f0 f1 f8 f9 f10 f11
        rintro t H n ⟨f0, f1, f8, f9, f10, f11, f28⟩
        refine Stk.on ?_
        refine Stk.cond (x7 != 0) (by exact f28) (fun hb8 => ?_) (fun hb8 => ?_)
        · have h := cT hb8 h
          refine Stk.sq ?_
          refine Stk.rg ?_
          refine Stk.run 2 (fun t H n => t 4 = .sc (.int .i64 x7)) (fun J hJ => ?_) ?_
          · simp [-splice, f0, f1, f8, f9, f10, f11, f28]
            exact hJ _ _ _ (by simp [-splice, f0, f1, f8, f9, f10, f11, f28])
          clear f0 f1 f8 f9 f10 f11 f28
          rintro t H n f4
          refine Stk.on ?_
          refine Stk.rt ?_
          have hq := Option.some.inj h; subst hq
          exact (hr _ _ _ (.sc (.int .i64 x7)) ([]) (by simp [f4]) (.inr (.inr (.free (rfl))))).1
        · have h := cF hb8 h
          refine Stk.sk ?_
          refine Stk.bn ?_
          refine Stk.rg ?_
          refine Stk.run 2 (fun t H n => t 0 = .ssl (encs c5 a0) a0.length false ∧ t 1 = .ssl (encs c5 a1) a1.length false ∧ t 9 = .ssl (encs c5 a0) a0.length false ∧ t 10 = .sc (.int .i64 (a0.length : Int)) ∧ t 11 = .sc (.int .i64 (IntKind.i64.wrap (v1 + 1)))) (fun J hJ => ?_) ?_
          · simp [-splice, f0, f1, f8, f9, f10, f11, f28]
            exact hJ _ _ _ ⟨by simp [f0], by simp [f1], by simp [f9], by simp [f10], by simp [-splice, f0, f1, f8, f9, f10, f11, f28]⟩
          clear f0 f1 f8 f9 f10 f11 f28
          rintro t H n ⟨f0, f1, f9, f10, f11⟩
          refine Stk.on ?_
          exact Stk.ln μ (Nat.lt_succ_self _) (hJ2 _ _ _ _ ⟨(IntKind.i64.wrap (v1 + 1)), h, f0, f1, f9, f10, f11⟩)
    · have h := cF hb3 h
      refine Stk.ex rfl ?_
      exact Stk.ln 0 (by decide) (hJ1 _ _ _ ⟨h, f0, f1⟩)
  clear h f0 f1 f9 f10 f11
  rintro t H n ⟨h, f0, f1⟩
  subst hK1
  refine Stk.sq ?_
  refine Stk.sq ?_
  refine Stk.rg ?_
  refine Stk.run 5 (fun t H n => t 35 = .sc (.bool (decide ((a0.length : Int) < (a1.length : Int))))) (fun J hJ => ?_) ?_
  · simp [-splice, f0, f1]
    exact hJ _ _ _ (by simp [-splice, f0, f1])
  clear f0 f1
  rintro t H n f35
  refine Stk.on ?_
  refine Stk.cond (decide ((a0.length : Int) < (a1.length : Int))) (by exact f35) (fun hb9 => ?_) (fun hb9 => ?_)
  · have h := cT hb9 h
    refine Stk.sq ?_
    refine Stk.rg ?_
    refine Stk.run 1 (fun t H n => t 4 = .sc (.int .i64 (-1))) (fun J hJ => ?_) ?_
    · simp [-splice, f35]
      exact hJ _ _ _ (by simp [-splice, f35])
    clear f35
    rintro t H n f4
    refine Stk.on ?_
    refine Stk.rt ?_
    have hq := Option.some.inj h; subst hq
    exact (hr _ _ _ (.sc (.int .i64 (-1))) ([]) (by simp [f4]) (.inr (.inr (.free (rfl))))).1
  · have h := cF hb9 h
    refine Stk.sk ?_
    refine Stk.sq ?_
    refine Stk.rg ?_
    refine Stk.run 1 (fun t H n => t 4 = .sc (.int .i64 0)) (fun J hJ => ?_) ?_
    · simp [-splice, f35]
      exact hJ _ _ _ (by simp [-splice, f35])
    clear f35
    rintro t H n f4
    refine Stk.on ?_
    refine Stk.rt ?_
    have hq := Option.some.inj h; subst hq
    exact (hr _ _ _ (.sc (.int .i64 0)) ([]) (by simp [f4]) (.inr (.inr (.free (rfl))))).1
theorem ok_poly_compare (F : Nat) (a0 : (Arr 12 Int)) (a1 : (Arr 12 Int)) (r : Int) (h : poly_compare F a0 a1 = some r) : RunF Try.prog T.T 75 [.agg (c112 a0), .agg (c112 a1)] (.sc (.int .i64 r)) := by
  rw [poly_compare] at h
  refine RunF.z Try.func75 rfl rfl rfl rfl rfl (fun C hr => ?_)
  refine Stk.gen (fun t H n => t 0 = .agg (c112 a0) ∧ t 1 = .agg (c112 a1)) ⟨by simp, by simp⟩ ?_
  rintro t H n ⟨f0, f1⟩
  refine Stk.sq ?_
  refine Stk.rg ?_
  refine Stk.om (mop_box T.t112 (cs := c112 a0) (by show partOk (t 0) = true; rw [f0]; rfl) (by show cellsOf (t 0) = _; rw [f0]; rfl)) (by simp [f0, f1]) rfl (fun t' ht' => ?_)
  refine Stk.gen (fun t H n => ∃ b1, t 1 = .agg (c112 a1) ∧ t 2 = .own b1 0 ∧ H b1 = some (.cells (c112 a0) 112) ∧ b1 < n) ⟨n, by simp [ht', f1], by simp [ht'], upd_same _ _ _, Nat.lt_succ_self _⟩ ?_
  clear f0 f1 ht' t'
  rintro t H n ⟨b1, f1, f2, b_b1, l_b1⟩
  refine Stk.om (mop_box T.t112 (cs := c112 a1) (by show partOk (t 1) = true; rw [f1]; rfl) (by show cellsOf (t 1) = _; rw [f1]; rfl)) (by simp [f1, f2]) rfl (fun t' ht' => ?_)
  refine Stk.gen (fun t H n => ∃ b2, t 2 = .own b1 0 ∧ t 3 = .own b2 0 ∧ H b1 = some (.cells (c112 a0) 112) ∧ b1 < n ∧ H b2 = some (.cells (c112 a1) 112) ∧ b2 < n ∧ b1 ≠ b2) ⟨n, by simp [ht', f2], by simp [ht'], (upd_ne _ _ (Nat.ne_of_lt l_b1)).trans b_b1, Nat.lt_succ_of_lt l_b1, upd_same _ _ _, Nat.lt_succ_self _, Nat.ne_of_lt l_b1⟩ ?_
  clear f1 f2 b_b1 l_b1 ht' t'
  rintro t H n ⟨b2, f2, f3, b_b1, l_b1, b_b2, l_b2, d_b1_b2⟩
  refine Stk.run 1 (fun t H n => t 2 = .own b1 0 ∧ t 3 = .own b2 0 ∧ H b1 = some (.cells (c112 a0) 112) ∧ b1 < n ∧ H b2 = some (.cells (c112 a1) 112) ∧ b2 < n ∧ b1 ≠ b2) (fun J hJ => ?_) ?_
  · simp [-splice, f2, f3, b_b1, b_b2]
    exact hJ _ _ _ ⟨by simp [f2], by simp [f3], b_b1, l_b1, b_b2, l_b2, d_b1_b2⟩
  clear f2 f3 b_b1 l_b1 b_b2 l_b2 d_b1_b2
  rintro t H n ⟨f2, f3, b_b1, l_b1, b_b2, l_b2, d_b1_b2⟩
  refine Stk.on ?_
  refine Stk.sq ?_
  obtain ⟨n0, hn0⟩ : ∃ m, m = n := ⟨n, rfl⟩
  have ln0 : n0 ≤ n := Nat.le_of_eq hn0
  refine Stk.rgD [.rd [], .rd [], .rd [b1, b2], .rd []] none (by kernel_rfl) (by rfl) rfl (by simp [below, hn0, l_b1, hn0, l_b2]) rfl ?_
  refine Stk.runD 2 (fun t H n => t 5 = .osl b1 0 12 (some 12) ∧ t 6 = .osl b2 0 12 (some 12) ∧ H b1 = some (.cells (c112 a0) 112) ∧ b1 < n ∧ H b2 = some (.cells (c112 a1) 112) ∧ b2 < n ∧ b1 ≠ b2 ∧ n0 ≤ n) (fun J hJ => ?_) ?_
  · simp [-splice, f2, f3, b_b1, b_b2]
    exact hJ _ _ _ ⟨by simp [-splice, f2, f3, b_b1, b_b2], by simp [-splice, f2, f3, b_b1, b_b2], b_b1, l_b1, b_b2, l_b2, d_b1_b2, ln0⟩
  clear f2 f3 b_b1 l_b1 b_b2 l_b2 d_b1_b2 ln0
  rintro t H n ⟨f5, f6, b_b1, l_b1, b_b2, l_b2, d_b1_b2, ln0⟩
  obtain ⟨x3, hx3, h⟩ := bnd h
  refine Stk.cvD (g := 91) (args := [.osl b1 0 12 (some 12), .osl b2 0 12 (some 12)]) (args' := [.ssl (encs c5 a0.1) a0.1.length false, .ssl (encs c5 a1.1) a1.1.length false]) (v := .sc (.int .i64 x3)) ([b1] ++ [b2]) (ok_slices_Compare_uint8_uint8 F _ _ _ hx3) rfl (by simp) rfl (by simp [f5, f6]) rfl rfl (by simp [f5, f6]) (.cons (view_arr fr5 b_b1 (by simp) rfl) (.cons (view_arr fr5 b_b2 (by simp) rfl) (.nil))) (.inr rfl) (fun t' ht' => ?_)
  refine Stk.gen (fun t H n => t 7 = .sc (.int .i64 x3) ∧ n0 ≤ n) ⟨by simp [ht'], ln0⟩ ?_
  clear f5 f6 b_b1 l_b1 b_b2 l_b2 d_b1_b2 ln0 ht' t'
  rintro t H n ⟨f7, ln0⟩
  refine Stk.runD 1 (fun t H n => t 4 = .sc (.int .i64 x3) ∧ n0 ≤ n) (fun J hJ => ?_) ?_
  · simp [-splice, f7]
    exact hJ _ _ _ ⟨by simp [-splice, f7], ln0⟩
  clear f7 ln0
  rintro t H n ⟨f4, ln0⟩
  refine Stk.onD ?_
  refine Stk.rt ?_
  have hq := Option.some.inj h; subst hq
  exact (hr _ _ _ (.sc (.int .i64 x3)) ([]) (by simp [f4]) (.inr (.inr (.free (rfl))))).1
theorem ok_poly_order (F : Nat) (a0 : api_Term) (a1 : api_Term) (r : Int) (h : poly_order F a0 a1 = some r) : RunF Try.prog T.T 63 [.agg (c97 a0), .agg (c97 a1)] (.sc (.int .i64 r)) := by
  rw [poly_order] at h
  refine RunF.z Try.func63 rfl rfl rfl rfl rfl (fun C hr => ?_)
  refine Stk.gen (fun t H n => t 0 = .agg (c97 a0) ∧ t 1 = .agg (c97 a1)) ⟨by simp, by simp⟩ ?_
  rintro t H n ⟨f0, f1⟩
  refine Stk.sq ?_
  refine Stk.rg ?_
  refine Stk.om (mop_box T.t97 (cs := c97 a0) (by show partOk (t 0) = true; rw [f0]; rfl) (by show cellsOf (t 0) = _; rw [f0]; rfl)) (by simp [f0, f1]) rfl (fun t' ht' => ?_)
  refine Stk.gen (fun t H n => ∃ b1, t 1 = .agg (c97 a1) ∧ t 2 = .own b1 0 ∧ H b1 = some (.cells (c97 a0) 97) ∧ b1 < n) ⟨n, by simp [ht', f1], by simp [ht'], upd_same _ _ _, Nat.lt_succ_self _⟩ ?_
  clear f0 f1 ht' t'
  rintro t H n ⟨b1, f1, f2, b_b1, l_b1⟩
  refine Stk.om (mop_box T.t97 (cs := c97 a1) (by show partOk (t 1) = true; rw [f1]; rfl) (by show cellsOf (t 1) = _; rw [f1]; rfl)) (by simp [f1, f2]) rfl (fun t' ht' => ?_)
  refine Stk.gen (fun t H n => ∃ b2, t 2 = .own b1 0 ∧ t 3 = .own b2 0 ∧ H b1 = some (.cells (c97 a0) 97) ∧ b1 < n ∧ H b2 = some (.cells (c97 a1) 97) ∧ b2 < n ∧ b1 ≠ b2) ⟨n, by simp [ht', f2], by simp [ht'], (upd_ne _ _ (Nat.ne_of_lt l_b1)).trans b_b1, Nat.lt_succ_of_lt l_b1, upd_same _ _ _, Nat.lt_succ_self _, Nat.ne_of_lt l_b1⟩ ?_
  clear f1 f2 b_b1 l_b1 ht' t'
  rintro t H n ⟨b2, f2, f3, b_b1, l_b1, b_b2, l_b2, d_b1_b2⟩
  refine Stk.run 1 (fun t H n => t 2 = .own b1 0 ∧ t 3 = .own b2 0 ∧ H b1 = some (.cells (c97 a0) 97) ∧ b1 < n ∧ H b2 = some (.cells (c97 a1) 97) ∧ b2 < n ∧ b1 ≠ b2) (fun J hJ => ?_) ?_
  · simp [-splice, f2, f3, b_b1, b_b2]
    exact hJ _ _ _ ⟨by simp [f2], by simp [f3], b_b1, l_b1, b_b2, l_b2, d_b1_b2⟩
  clear f2 f3 b_b1 l_b1 b_b2 l_b2 d_b1_b2
  rintro t H n ⟨f2, f3, b_b1, l_b1, b_b2, l_b2, d_b1_b2⟩
  refine Stk.on ?_
  refine Stk.sq ?_
  refine Stk.rg ?_
  refine Stk.run 4 (fun t H n => t 6 = .agg (c95 a0.Exps) ∧ t 8 = .agg (c95 a1.Exps)) (fun J hJ => ?_) ?_
  · simp [-splice, f2, f3, b_b1, b_b2, ld_97_0_95]
    exact hJ _ _ _ ⟨by simp [-splice, f2, f3, b_b1, b_b2, ld_97_0_95], by simp [-splice, f2, f3, b_b1, b_b2, ld_97_0_95]⟩
  clear f2 f3 b_b1 l_b1 b_b2 l_b2 d_b1_b2
  rintro t H n ⟨f6, f8⟩
  obtain ⟨x3, hx3, h⟩ := bnd h
  refine Stk.cv (g := 75) (args := [.agg (c95 a0.Exps), .agg (c95 a1.Exps)]) (args' := [.agg (c95 a0.Exps), .agg (c95 a1.Exps)]) (v := .sc (.int .i64 x3)) [] (ok_poly_compare F _ _ _ hx3) (by simp [f6, f8]) rfl rfl (by simp [f6, f8]) (.cons (.free (fr95 _)) (.cons (.free (fr95 _)) (.nil))) (.inl ⟨rfl, rfl⟩) (fun t' ht' => ?_)
  refine Stk.gen (fun t H n => t 9 = .sc (.int .i64 x3)) (by simp [ht']) ?_
  clear f6 f8 ht' t'
  rintro t H n f9
  refine Stk.run 1 (fun t H n => t 4 = .sc (.int .i64 x3)) (fun J hJ => ?_) ?_
  · simp [-splice, f9]
    exact hJ _ _ _ (by simp [-splice, f9])
  clear f9
  rintro t H n f4
  refine Stk.on ?_
  refine Stk.rt ?_
  have hq := Option.some.inj h; subst hq
  exact (hr _ _ _ (.sc (.int .i64 x3)) ([]) (by simp [f4]) (.inr (.inr (.free (rfl))))).1
theorem ok_poly_added (F : Nat) (a0 : api_Term) (a1 : api_Term) (r : api_Term) (h : poly_added F a0 a1 = some r) : RunF Try.prog T.T 64 [.agg (c97 a0), .agg (c97 a1)] (.agg (c97 r)) := by
  rw [poly_added] at h
  refine RunF.z Try.func64 rfl rfl rfl rfl rfl (fun C hr => ?_)
  refine Stk.gen (fun t H n => t 0 = .agg (c97 a0) ∧ t 1 = .agg (c97 a1)) ⟨by simp, by simp⟩ ?_
  rintro t H n ⟨f0, f1⟩
  refine Stk.sq ?_
  refine Stk.rg ?_
  refine Stk.om (mop_box T.t97 (cs := c97 a0) (by show partOk (t 0) = true; rw [f0]; rfl) (by show cellsOf (t 0) = _; rw [f0]; rfl)) (by simp [f0, f1]) rfl (fun t' ht' => ?_)
  refine Stk.gen (fun t H n => ∃ b1, t 1 = .agg (c97 a1) ∧ t 2 = .own b1 0 ∧ H b1 = some (.cells (c97 a0) 97) ∧ b1 < n) ⟨n, by simp [ht', f1], by simp [ht'], upd_same _ _ _, Nat.lt_succ_self _⟩ ?_
  clear f0 f1 ht' t'
  rintro t H n ⟨b1, f1, f2, b_b1, l_b1⟩
  refine Stk.om (mop_box T.t97 (cs := c97 a1) (by show partOk (t 1) = true; rw [f1]; rfl) (by show cellsOf (t 1) = _; rw [f1]; rfl)) (by simp [f1, f2]) rfl (fun t' ht' => ?_)
  refine Stk.gen (fun t H n => ∃ b2, t 2 = .own b1 0 ∧ t 3 = .own b2 0 ∧ H b1 = some (.cells (c97 a0) 97) ∧ b1 < n ∧ H b2 = some (.cells (c97 a1) 97) ∧ b2 < n ∧ b1 ≠ b2) ⟨n, by simp [ht', f2], by simp [ht'], (upd_ne _ _ (Nat.ne_of_lt l_b1)).trans b_b1, Nat.lt_succ_of_lt l_b1, upd_same _ _ _, Nat.lt_succ_self _, Nat.ne_of_lt l_b1⟩ ?_
  clear f1 f2 b_b1 l_b1 ht' t'
  rintro t H n ⟨b2, f2, f3, b_b1, l_b1, b_b2, l_b2, d_b1_b2⟩
  refine Stk.om (mop_alloc T.t97 (cs := c97 (api_Term.mk (Arr.rep 12 0) 0)) rfl) (by simp [f2, f3]) rfl (fun t' ht' => ?_)
  refine Stk.gen (fun t H n => ∃ b3, t 2 = .own b1 0 ∧ t 3 = .own b2 0 ∧ t 4 = .own b3 0 ∧ H b1 = some (.cells (c97 a0) 97) ∧ b1 < n ∧ H b2 = some (.cells (c97 a1) 97) ∧ b2 < n ∧ H b3 = some (.cells (c97 (api_Term.mk (Arr.rep 12 0) 0)) 97) ∧ b3 < n ∧ b1 ≠ b2 ∧ b1 ≠ b3 ∧ b2 ≠ b3) ⟨n, by simp [ht', f2], by simp [ht', f3], by simp [ht'], (upd_ne _ _ (Nat.ne_of_lt l_b1)).trans b_b1, Nat.lt_succ_of_lt l_b1, (upd_ne _ _ (Nat.ne_of_lt l_b2)).trans b_b2, Nat.lt_succ_of_lt l_b2, upd_same _ _ _, Nat.lt_succ_self _, d_b1_b2, Nat.ne_of_lt l_b1, Nat.ne_of_lt l_b2⟩ ?_
  clear f2 f3 b_b1 l_b1 b_b2 l_b2 d_b1_b2 ht' t'
  rintro t H n ⟨b3, f2, f3, f4, b_b1, l_b1, b_b2, l_b2, b_b3, l_b3, d_b1_b2, d_b1_b3, d_b2_b3⟩
  refine Stk.on ?_
  refine Stk.sq ?_
  refine Stk.rg ?_
  refine Stk.run 6 (fun t H n => t 2 = .own b1 0 ∧ t 4 = .own b3 0 ∧ t 9 = .sc (.int .i64 (IntKind.i64.wrap (a0.Coef + a1.Coef))) ∧ t 10 = .own b1 12 ∧ H b1 = some (.cells (c97 a0) 97) ∧ b1 < n ∧ H b3 = some (.cells (c97 (api_Term.mk (Arr.rep 12 0) 0)) 97) ∧ b3 < n ∧ b1 ≠ b3) (fun J hJ => ?_) ?_
  · simp [-splice, f2, f3, f4, b_b1, b_b2, b_b3, ld_97_12_2]
    exact hJ _ _ _ ⟨by simp [f2], by simp [f4], by simp [-splice, f2, f3, f4, b_b1, b_b2, b_b3, ld_97_12_2], by simp [-splice, f2, f3, f4, b_b1, b_b2, b_b3, ld_97_12_2], b_b1, l_b1, b_b3, l_b3, d_b1_b3⟩
  clear f2 f3 f4 b_b1 l_b1 b_b2 l_b2 b_b3 l_b3 d_b1_b2 d_b1_b3 d_b2_b3
  rintro t H n ⟨f2, f4, f9, f10, b_b1, l_b1, b_b3, l_b3, d_b1_b3⟩
  refine Stk.om (mop_store (z := 1) rfl f10 b_b1 f9 rfl (by rw [len97]; decide) rfl (st_97_12_2 _ _)) (by simp [f2, f4, f9, f10]) rfl (fun t' ht' => ?_)
  refine Stk.gen (fun t H n => t 2 = .own b1 0 ∧ t 4 = .own b3 0 ∧ H b1 = some (.cells (c97 ({ a0 with Coef := (IntKind.i64.wrap (a0.Coef + a1.Coef)) })) 97) ∧ b1 < n ∧ H b3 = some (.cells (c97 (api_Term.mk (Arr.rep 12 0) 0)) 97) ∧ b3 < n ∧ b1 ≠ b3) ⟨by simp [ht', f2], by simp [ht', f4], upd_same _ _ _, l_b1, (upd_ne _ _ (Ne.symm d_b1_b3)).trans b_b3, l_b3, d_b1_b3⟩ ?_
  clear f2 f4 f9 f10 b_b1 l_b1 b_b3 l_b3 d_b1_b3 ht' t'
  rintro t H n ⟨f2, f4, b_b1, l_b1, b_b3, l_b3, d_b1_b3⟩
  refine Stk.on ?_
  refine Stk.sq ?_
  refine Stk.rg ?_
  refine Stk.run 1 (fun t H n => t 4 = .own b3 0 ∧ t 11 = .agg (c97 ({ a0 with Coef := (IntKind.i64.wrap (a0.Coef + a1.Coef)) })) ∧ H b3 = some (.cells (c97 (api_Term.mk (Arr.rep 12 0) 0)) 97) ∧ b3 < n) (fun J hJ => ?_) ?_
  · simp [-splice, f2, f4, b_b1, b_b3, ld_97_0_97]
    exact hJ _ _ _ ⟨by simp [f4], by simp [-splice, f2, f4, b_b1, b_b3, ld_97_0_97], b_b3, l_b3⟩
  clear f2 f4 b_b1 l_b1 b_b3 l_b3 d_b1_b3
  rintro t H n ⟨f4, f11, b_b3, l_b3⟩
  refine Stk.om (mop_store (z := 13) rfl f4 b_b3 f11 (len97 _) (by rw [len97]; decide) (ok97 _) (st_97_0_97 _ _)) (by simp [f4, f11]) rfl (fun t' ht' => ?_)
  refine Stk.gen (fun t H n => t 4 = .own b3 0 ∧ H b3 = some (.cells (c97 ({ a0 with Coef := (IntKind.i64.wrap (a0.Coef + a1.Coef)) })) 97) ∧ b3 < n) ⟨by simp [ht', f4], upd_same _ _ _, l_b3⟩ ?_
  clear f4 f11 b_b3 l_b3 ht' t'
  rintro t H n ⟨f4, b_b3, l_b3⟩
  refine Stk.on ?_
  refine Stk.rt ?_
  have hq := Option.some.inj h; subst hq
  exact (hr _ _ _ (.agg (c97 ({ a0 with Coef := (IntKind.i64.wrap (a0.Coef + a1.Coef)) }))) ([]) (by simp [f4, b_b3, ld_97_0_97]) (.inr (.inr (.free (fr97 _))))).1
theorem ok_slices_IndexFunc_uint8_uint8 (F : Nat) (a0 : (List Int)) (φ1 : Int → Option Bool) (g1 : FuncId) (first1 caps1 : List AV) (fr1 : freeL first1 = true ∧ freeL caps1 = true) (hφ1 : ∀ y0 r, φ1 y0 = some r → RunF Try.prog T.T g1 (first1 ++ [.sc (.int .u8 y0)] ++ caps1) (.sc (.bool r))) (r : Int) (h : slices_IndexFunc_uint8_uint8 F a0 φ1 = some r) : RunF Try.prog T.T 101 [.ssl (encs c5 a0) a0.length false, .fn (.func g1) first1 caps1] (.sc (.int .i64 r)) := by
  rw [slices_IndexFunc_uint8_uint8] at h
  refine RunF.z Try.func101 rfl rfl rfl rfl rfl (fun C hr => ?_)
  refine Stk.gen (fun t H n => t 0 = .ssl (encs c5 a0) a0.length false ∧ t 1 = .fn (.func g1) first1 caps1) ⟨by simp, by simp⟩ ?_
  rintro t H n ⟨f0, f1⟩
  refine Stk.sq ?_
  refine Stk.rg ?_
  refine Stk.run 1 (fun t H n => t 0 = .ssl (encs c5 a0) a0.length false ∧ t 1 = .fn (.func g1) first1 caps1) (fun J hJ => ?_) ?_
  · simp [-splice, f0, f1]
    exact hJ _ _ _ ⟨by simp [f0], by simp [f1]⟩
  clear f0 f1
  rintro t H n ⟨f0, f1⟩
  refine Stk.on ?_
  refine Stk.sq ?_
  refine Stk.sq ?_
  refine Stk.rg ?_
  refine Stk.run 3 (fun t H n => t 0 = .ssl (encs c5 a0) a0.length false ∧ t 1 = .fn (.func g1) first1 caps1 ∧ t 7 = .sc (.int .i64 (a0.length : Int)) ∧ t 8 = .sc (.int .i64 0)) (fun J hJ => ?_) ?_
  · simp [-splice, f0, f1]
    exact hJ _ _ _ ⟨by simp [f0], by simp [f1], by simp [-splice, f0, f1], by simp [-splice, f0, f1]⟩
  clear f0 f1
  rintro t H n ⟨f0, f1, f7, f8⟩
  refine Stk.on ?_
  refine Stk.bk ?_
  refine Stk.lo (fun μ t H n => ∃ v1 : Int, slices_IndexFunc_uint8_uint8_L0 F a0 φ1 μ v1 = some r ∧ t 0 = .ssl (encs c5 a0) a0.length false ∧ t 1 = .fn (.func g1) first1 caps1 ∧ t 7 = .sc (.int .i64 (a0.length : Int)) ∧ t 8 = .sc (.int .i64 v1)) F ⟨0, h, f0, f1, f7, f8⟩ ?_
  clear h f0 f1 f7 f8
  rintro J1 hJ1 μ t H n ⟨v1, h, f0, f1, f7, f8⟩
  cases μ with
  | zero => exact absurd h (by simp [slices_IndexFunc_uint8_uint8_L0])
  | succ μ =>
  rw [slices_IndexFunc_uint8_uint8_L0] at h
  refine Stk.sq ?_
  refine Stk.rg ?_
  refine Stk.run 1 (fun t H n => t 0 = .ssl (encs c5 a0) a0.length false ∧ t 1 = .fn (.func g1) first1 caps1 ∧ t 7 = .sc (.int .i64 (a0.length : Int)) ∧ t 8 = .sc (.int .i64 v1) ∧ t 9 = .sc (.bool (decide (v1 < (a0.length : Int))))) (fun J hJ => ?_) ?_
  · simp [-splice, f0, f1, f7, f8]
    exact hJ _ _ _ ⟨by simp [f0], by simp [f1], by simp [f7], by simp [f8], by simp [-splice, f0, f1, f7, f8]⟩
  clear f0 f1 f7 f8
  rintro t H n ⟨f0, f1, f7, f8, f9⟩
  refine Stk.on ?_
  refine Stk.sq ?_
  refine Stk.cond (decide (v1 < (a0.length : Int))) (by exact f9) (fun hb3 => ?_) (fun hb3 => ?_)
  · have h := cT hb3 h
    refine Stk.sk ?_
    refine Stk.sq ?_
    refine Stk.bk ?_
    refine Stk.sq ?_
    refine Stk.rg ?_
    refine Stk.run 2 (fun t H n => t 0 = .ssl (encs c5 a0) a0.length false ∧ t 1 = .fn (.func g1) first1 caps1 ∧ t 5 = .sc (.int .i64 v1) ∧ t 7 = .sc (.int .i64 (a0.length : Int)) ∧ t 8 = .sc (.int .i64 v1)) (fun J hJ => ?_) ?_
    · simp [-splice, f0, f1, f7, f8, f9]
      exact hJ _ _ _ ⟨by simp [f0], by simp [f1], by simp [-splice, f0, f1, f7, f8, f9], by simp [f7], by simp [f8]⟩
    clear f0 f1 f7 f8 f9
    rintro t H n ⟨f0, f1, f5, f7, f8⟩
    refine Stk.on ?_
    refine Stk.sq ?_
    refine Stk.rg ?_
    obtain ⟨x4, hx4, h⟩ := bnd h
    obtain ⟨i0x4, i1x4, i2x4, _⟩ := idx_ok hx4
    have ex4_0_5 : partOf T.T 5 (encs c5 a0) (v1.toNat) = some (.sc (.int .u8 x4)) := by
        have e0 := part_elem0 (e := c5) (z := 1) (T := T.T) (ty := 5) T.t5 (by decide) (by decide) hx4 0 (by decide)
        (try simp only [Nat.mul_one, Nat.add_zero] at e0)
        exact e0.trans rfl
    refine Stk.run 5 (fun t H n => t 0 = .ssl (encs c5 a0) a0.length false ∧ t 1 = .fn (.func g1) first1 caps1 ∧ t 5 = .sc (.int .i64 v1) ∧ t 7 = .sc (.int .i64 (a0.length : Int)) ∧ t 8 = .sc (.int .i64 v1) ∧ t 11 = .fn (.func g1) first1 caps1 ∧ t 15 = .sc (.int .u8 x4)) (fun J hJ => ?_) ?_
    · simp [-splice, f0, f1, f5, f7, f8, i0x4, i1x4, pd5, ex4_0_5]
      exact hJ _ _ _ ⟨by simp [f0], by simp [f1], by simp [f5], by simp [f7], by simp [f8], by simp [-splice, f0, f1, f5, f7, f8, i0x4, i1x4, pd5, ex4_0_5], by simp [-splice, f0, f1, f5, f7, f8, i0x4, i1x4, pd5, ex4_0_5]⟩
    clear f0 f1 f5 f7 f8
    rintro t H n ⟨f0, f1, f5, f7, f8, f11, f15⟩
    obtain ⟨x5, hx5, h⟩ := bnd h
    refine Stk.cv (g := g1) (args := first1 ++ [.sc (.int .u8 x4)] ++ caps1) (args' := first1 ++ [.sc (.int .u8 x4)] ++ caps1) (v := .sc (.bool x5)) [] (hφ1 _ _ hx5) (by simp [f0, f1, f5, f7, f8, f11, f15]) rfl f11 (by simp [f0, f1, f5, f7, f8, f11, f15]) (viewL_mid (x := [.sc (.int .u8 x4)]) (y := [.sc (.int .u8 x4)]) fr1.1 fr1.2 (.cons (.free (rfl)) (.nil))) (.inl ⟨rfl, rfl⟩) (fun t' ht' => ?_)
    refine Stk.gen (fun t H n => t 0 = .ssl (encs c5 a0) a0.length false ∧ t 1 = .fn (.func g1) first1 caps1 ∧ t 5 = .sc (.int .i64 v1) ∧ t 7 = .sc (.int .i64 (a0.length : Int)) ∧ t 8 = .sc (.int .i64 v1) ∧ t 16 = .sc (.bool x5)) ⟨by simp [ht', f0], by simp [ht', f1], by simp [ht', f5], by simp [ht', f7], by simp [ht', f8], by simp [ht']⟩ ?_
    clear f0 f1 f5 f7 f8 f11 f15 ht' t'
    rintro t H n ⟨f0, f1, f5, f7, f8, f16⟩
    refine Stk.on ?_
    refine Stk.cond x5 (by exact f16) (fun hb6 => ?_) (fun hb6 => ?_)
    · have h := cT hb6 h
      refine Stk.sq ?_
      refine Stk.rg ?_
      refine Stk.run 2 (fun t H n => t 4 = .sc (.int .i64 v1)) (fun J hJ => ?_) ?_
      · simp [-splice, f0, f1, f5, f7, f8, f16]
        exact hJ _ _ _ (by simp [-splice, f0, f1, f5, f7, f8, f16])
      clear f0 f1 f5 f7 f8 f16
      rintro t H n f4
      refine Stk.on ?_
      refine Stk.rt ?_
      have hq := Option.some.inj h; subst hq
      exact (hr _ _ _ (.sc (.int .i64 v1)) ([]) (by simp [f4]) (.inr (.inr (.free (rfl))))).1
    · have h := cF hb6 h
      refine Stk.sk ?_
      refine Stk.bn ?_
      refine Stk.rg ?_
      refine Stk.run 2 (fun t H n => t 0 = .ssl (encs c5 a0) a0.length false ∧ t 1 = .fn (.func g1) first1 caps1 ∧ t 7 = .sc (.int .i64 (a0.length : Int)) ∧ t 8 = .sc (.int .i64 (IntKind.i64.wrap (v1 + 1)))) (fun J hJ => ?_) ?_
      · simp [-splice, f0, f1, f5, f7, f8, f16]
        exact hJ _ _ _ ⟨by simp [f0], by simp [f1], by simp [f7], by simp [-splice, f0, f1, f5, f7, f8, f16]⟩
      clear f0 f1 f5 f7 f8 f16
      rintro t H n ⟨f0, f1, f7, f8⟩
      refine Stk.on ?_
      exact Stk.ln μ (Nat.lt_succ_self _) (hJ1 _ _ _ _ ⟨(IntKind.i64.wrap (v1 + 1)), h, f0, f1, f7, f8⟩)
  · have h := cF hb3 h
    refine Stk.ex rfl ?_
    refine Stk.sq ?_
    refine Stk.rg ?_
    refine Stk.run 1 (fun t H n => t 4 = .sc (.int .i64 (-1))) (fun J hJ => ?_) ?_
    · simp [-splice, f0, f1, f7, f8, f9]
      exact hJ _ _ _ (by simp [-splice, f0, f1, f7, f8, f9])
    clear f0 f1 f7 f8 f9
    rintro t H n f4
    refine Stk.on ?_
    refine Stk.rt ?_
    have hq := Option.some.inj h; subst hq
    exact (hr _ _ _ (.sc (.int .i64 (-1))) ([]) (by simp [f4]) (.inr (.inr (.free (rfl))))).1
theorem ok_slices_ContainsFunc_uint8_uint8 (F : Nat) (a0 : (List Int)) (φ1 : Int → Option Bool) (g1 : FuncId) (first1 caps1 : List AV) (fr1 : freeL first1 = true ∧ freeL caps1 = true) (hφ1 : ∀ y0 r, φ1 y0 = some r → RunF Try.prog T.T g1 (first1 ++ [.sc (.int .u8 y0)] ++ caps1) (.sc (.bool r))) (r : Bool) (h : slices_ContainsFunc_uint8_uint8 F a0 φ1 = some r) : RunF Try.prog T.T 89 [.ssl (encs c5 a0) a0.length false, .fn (.func g1) first1 caps1] (.sc (.bool r)) := by
  rw [slices_ContainsFunc_uint8_uint8] at h
  refine RunF.z Try.func89 rfl rfl rfl rfl rfl (fun C hr => ?_)
  refine Stk.gen (fun t H n => t 0 = .ssl (encs c5 a0) a0.length false ∧ t 1 = .fn (.func g1) first1 caps1) ⟨by simp, by simp⟩ ?_
  rintro t H n ⟨f0, f1⟩
  refine Stk.sq ?_
  refine Stk.rg ?_
  refine Stk.run 1 (fun t H n => t 0 = .ssl (encs c5 a0) a0.length false ∧ t 1 = .fn (.func g1) first1 caps1) (fun J hJ => ?_) ?_
  · simp [-splice, f0, f1]
    exact hJ _ _ _ ⟨by simp [f0], by simp [f1]⟩
  clear f0 f1
  rintro t H n ⟨f0, f1⟩
  refine Stk.on ?_
  refine Stk.sq ?_
  refine Stk.rg ?_
  refine Stk.run 2 (fun t H n => t 5 = .ssl (encs c5 a0) a0.length false ∧ t 6 = .fn (.func g1) first1 caps1) (fun J hJ => ?_) ?_
  · simp [-splice, f0, f1]
    exact hJ _ _ _ ⟨by simp [-splice, f0, f1], by simp [-splice, f0, f1]⟩
  clear f0 f1
  rintro t H n ⟨f5, f6⟩
  obtain ⟨x1, hx1, h⟩ := bnd h
  refine Stk.cv (g := 101) (args := [.ssl (encs c5 a0) a0.length false, .fn (.func g1) first1 caps1]) (args' := [.ssl (encs c5 a0) a0.length false, .fn (.func g1) first1 caps1]) (v := .sc (.int .i64 x1)) [] (ok_slices_IndexFunc_uint8_uint8 F _ _ _ _ _ fr1 hφ1 _ hx1) (by simp [f5, f6]) rfl rfl (by simp [f5, f6]) (.cons (.free (freeL_encs fr5 _)) (.cons (.free (by simp [free, fr1])) (.nil))) (.inl ⟨rfl, rfl⟩) (fun t' ht' => ?_)
  refine Stk.gen (fun t H n => t 7 = .sc (.int .i64 x1)) (by simp [ht']) ?_
  clear f5 f6 ht' t'
  rintro t H n f7
  refine Stk.run 2 (fun t H n => t 4 = .sc (.bool (decide (0 ≤ x1)))) (fun J hJ => ?_) ?_
  · simp [-splice, f7]
    exact hJ _ _ _ (by simp [-splice, f7])
  clear f7
  rintro t H n f4
  refine Stk.on ?_
  refine Stk.rt ?_
  have hq := Option.some.inj h; subst hq
  exact (hr _ _ _ (.sc (.bool (decide (0 ≤ x1)))) ([]) (by simp [f4]) (.inr (.inr (.free (rfl))))).1
theorem ok_poly_powers_fit_1 (F : Nat) (a0 : Int) (r : Bool) (h : poly_powers_fit_1 F a0 = some r) : RunF Try.prog T.T 90 [.sc (.int .u8 a0)] (.sc (.bool r)) := by
  rw [poly_powers_fit_1] at h
  refine RunF.z Try.func90 rfl rfl rfl rfl rfl (fun C hr => ?_)
  refine Stk.gen (fun t H n => t 0 = .sc (.int .u8 a0)) (by simp) ?_
  rintro t H n f0
  refine Stk.sq ?_
  refine Stk.rg ?_
  refine Stk.run 1 (fun t H n => t 0 = .sc (.int .u8 a0)) (fun J hJ => ?_) ?_
  · simp [-splice, f0]
    exact hJ _ _ _ (by simp [f0])
  clear f0
  rintro t H n f0
  refine Stk.on ?_
  refine Stk.sq ?_
  refine Stk.rg ?_
  refine Stk.run 3 (fun t H n => t 2 = .sc (.bool (decide (6 < a0)))) (fun J hJ => ?_) ?_
  · simp [-splice, f0]
    exact hJ _ _ _ (by simp [-splice, f0])
  clear f0
  rintro t H n f2
  refine Stk.on ?_
  refine Stk.rt ?_
  have hq := Option.some.inj h; subst hq
  exact (hr _ _ _ (.sc (.bool (decide (6 < a0)))) ([]) (by simp [f2]) (.inr (.inr (.free (rfl))))).1
theorem ok_poly_powers_fit (F : Nat) (a0 : (Arr 12 Int)) (r : Bool) (h : poly_powers_fit F a0 = some r) : RunF Try.prog T.T 74 [.agg (c112 a0)] (.sc (.bool r)) := by
  rw [poly_powers_fit] at h
  refine RunF.z Try.func74 rfl rfl rfl rfl rfl (fun C hr => ?_)
  refine Stk.gen (fun t H n => t 0 = .agg (c112 a0)) (by simp) ?_
  rintro t H n f0
  refine Stk.sq ?_
  refine Stk.rg ?_
  refine Stk.om (mop_box T.t112 (cs := c112 a0) (by show partOk (t 0) = true; rw [f0]; rfl) (by show cellsOf (t 0) = _; rw [f0]; rfl)) (by simp [f0]) rfl (fun t' ht' => ?_)
  refine Stk.gen (fun t H n => ∃ b1, t 1 = .own b1 0 ∧ H b1 = some (.cells (c112 a0) 112) ∧ b1 < n) ⟨n, by simp [ht'], upd_same _ _ _, Nat.lt_succ_self _⟩ ?_
  clear f0 ht' t'
  rintro t H n ⟨b1, f1, b_b1, l_b1⟩
  refine Stk.run 1 (fun t H n => t 1 = .own b1 0 ∧ H b1 = some (.cells (c112 a0) 112) ∧ b1 < n) (fun J hJ => ?_) ?_
  · simp [-splice, f1, b_b1]
    exact hJ _ _ _ ⟨by simp [f1], b_b1, l_b1⟩
  clear f1 b_b1 l_b1
  rintro t H n ⟨f1, b_b1, l_b1⟩
  refine Stk.on ?_
  refine Stk.sq ?_
  refine Stk.rg ?_
  refine Stk.run 1 (fun t H n => t 3 = .osl b1 0 12 (some 12) ∧ H b1 = some (.cells (c112 a0) 112) ∧ b1 < n) (fun J hJ => ?_) ?_
  · simp [-splice, f1, b_b1]
    exact hJ _ _ _ ⟨by simp [-splice, f1, b_b1], b_b1, l_b1⟩
  clear f1 b_b1 l_b1
  rintro t H n ⟨f3, b_b1, l_b1⟩
  obtain ⟨x2, hx2, h⟩ := bnd h
  refine Stk.cv (g := 89) (args := [.osl b1 0 12 (some 12), .fn (.func 90) [] []]) (args' := [.ssl (encs c5 a0.1) a0.1.length false, .fn (.func 90) [] []]) (v := .sc (.bool x2)) [b1] (ok_slices_ContainsFunc_uint8_uint8 F _ _ 90 [] [] ⟨rfl, by simp [freeL, free]⟩ (fun y0 r h => ok_poly_powers_fit_1 F y0 r h) _ hx2) (by simp [f3]) rfl rfl (by simp [f3]) (.cons (view_arr fr5 b_b1 (by simp) rfl) (.cons (.fn .nil (.nil)) (.nil))) (.inr rfl) (fun t' ht' => ?_)
  refine Stk.gen (fun t H n => t 4 = .sc (.bool x2)) (by simp [ht']) ?_
  clear f3 b_b1 l_b1 ht' t'
  rintro t H n f4
  refine Stk.run 2 (fun t H n => t 2 = .sc (.bool (!x2))) (fun J hJ => ?_) ?_
  · simp [-splice, f4]
    exact hJ _ _ _ (by simp [-splice, f4])
  clear f4
  rintro t H n f2
  refine Stk.on ?_
  refine Stk.rt ?_
  have hq := Option.some.inj h; subst hq
  exact (hr _ _ _ (.sc (.bool (!x2))) ([]) (by simp [f2]) (.inr (.inr (.free (rfl))))).1
end Go.Proofs.Ytfbkgjmpadknfaa.M
