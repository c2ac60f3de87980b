/-
  The functions come to them.
-/
import Derived.Test.YtfflojbgikfbmaaGrM
namespace Go.Proofs.Ytfflojbgikfbmaa.M
open Go.Proofs.YtfflojbgikfbmaaW.Ah Go.Proofs.Ytfflojbgikfbmaa
set_option linter.unusedVariables false
set_option linter.unusedSimpArgs false
set_option maxRecDepth 8000
attribute [local simp] T.t2 T.t3 T.t4 T.t5 T.t9 T.t22 T.t23 T.t31 T.t34 T.t35 T.t37 List.range List.range.loop
attribute [-simp] appendAV fillAV
theorem ok_L17_few (F : Nat) (a0 : (List api_Node)) (r : Bool) (h : L17_few F a0 = some r) : RunF Try.prog T.T 14 [.ssl (encs c37 a0) a0.length false] (.sc (.bool r)) := by
  rw [L17_few] at h
  refine RunF.z Try.func14 rfl rfl rfl rfl rfl (fun C hr => ?_)
  refine Stk.gen (fun t H n => t 0 = .ssl (encs c37 a0) a0.length false) (by simp) ?_
  rintro t H n f0
  refine Stk.sq ?_
  refine Stk.rg ?_
  refine Stk.run 1 (fun t H n => t 0 = .ssl (encs c37 a0) a0.length false) (fun J hJ => ?_) ?_
  · simp [-splice, f0]
    exact hJ _ _ _ (by simp [f0])
  clear f0
  rintro t H n f0
  refine Stk.on ?_
  refine Stk.sq ?_
  refine Stk.rg ?_
  refine Stk.run 1 (fun t H n => t 0 = .ssl (encs c37 a0) a0.length false ∧ t 3 = .sc (.int .i64 0)) (fun J hJ => ?_) ?_
  · simp [-splice, f0]
    exact hJ _ _ _ ⟨by simp [f0], by simp [-splice, f0]⟩
  clear f0
  rintro t H n ⟨f0, f3⟩
  refine Stk.on ?_
  refine Stk.sq ?_
  refine Stk.sq ?_
  refine Stk.rg ?_
  refine Stk.run 1 (fun t H n => t 0 = .ssl (encs c37 a0) a0.length false ∧ t 3 = .sc (.int .i64 0) ∧ t 4 = .sc (.int .i64 0)) (fun J hJ => ?_) ?_
  · simp [-splice, f0, f3]
    exact hJ _ _ _ ⟨by simp [f0], by simp [f3], by simp [-splice, f0, f3]⟩
  clear f0 f3
  rintro t H n ⟨f0, f3, f4⟩
  refine Stk.on ?_
  refine Stk.bk ?_
  refine Stk.lo (fun μ t H n => ∃ v1 : Int, ∃ v2 : Int, L17_few_L0 F a0 μ v1 v2 = some r ∧ t 0 = .ssl (encs c37 a0) a0.length false ∧ t 3 = .sc (.int .i64 v1) ∧ t 4 = .sc (.int .i64 v2)) F ⟨0, 0, h, f0, f3, f4⟩ ?_
  clear h f0 f3 f4
  rintro J1 hJ1 μ t H n ⟨v1, v2, h, f0, f3, f4⟩
  cases μ with
  | zero => exact absurd h (by simp [L17_few_L0])
  | succ μ =>
  rw [L17_few_L0] at h
  refine Stk.sq ?_
  refine Stk.sq ?_
  refine Stk.rg ?_
  refine Stk.run 4 (fun t H n => t 0 = .ssl (encs c37 a0) a0.length false ∧ t 3 = .sc (.int .i64 v1) ∧ t 4 = .sc (.int .i64 v2) ∧ t 8 = .sc (.bool (decide (v2 < (a0.length : Int))))) (fun J hJ => ?_) ?_
  · simp [-splice, f0, f3, f4]
    exact hJ _ _ _ ⟨by simp [f0], by simp [f3], by simp [f4], by simp [-splice, f0, f3, f4]⟩
  clear f0 f3 f4
  rintro t H n ⟨f0, f3, f4, f8⟩
  refine Stk.on ?_
  refine Stk.cond (decide (v2 < (a0.length : Int))) (by exact f8) (fun hb5 => ?_) (fun hb5 => ?_)
  · have h := cT hb5 h
    refine Stk.sk ?_
    refine Stk.sq ?_
    refine Stk.bk ?_
    refine Stk.sq ?_
    obtain ⟨n0, hn0⟩ : ∃ m, m = n := ⟨n, rfl⟩
    have ln0 : n0 ≤ n := Nat.le_of_eq hn0
    refine Stk.rgD [.rd [], .rd [], .rd [], .rd [], .rd [], .rd [], .rd [], .rd [], .rd [], .rd [], .rd [], .rd [], .rd [], .rd [], .rd [], .rd [], .rd []] none (by kernel_rfl) (by rfl) rfl (by simp [below]) rfl ?_
    obtain ⟨x6, hx6, h⟩ := bnd h
    obtain ⟨i0x6, i1x6, i2x6, _⟩ := idx_ok hx6
    have ex6_4_23 : partOf T.T 23 (encs c37 a0) (v2.toNat * 5 + 4) = some (.ssl (encs c31 x6.Kids) x6.Kids.length false) := by
        have e0 := part_elem0 (e := c37) (z := 5) (T := T.T) (ty := 23) T.t23 (by decide) (by decide) hx6 4 (by decide)
        (try simp only [Nat.mul_one, Nat.add_zero] at e0)
        exact e0.trans (ld_37_4_23 _)
    have ex6_3_35 : partOf T.T 35 (encs c37 a0) (v2.toNat * 5 + 3) = some (.ssl (encs c5 x6.Bytes) x6.Bytes.length false) := by
        have e0 := part_elem0 (e := c37) (z := 5) (T := T.T) (ty := 35) T.t35 (by decide) (by decide) hx6 3 (by decide)
        (try simp only [Nat.mul_one, Nat.add_zero] at e0)
        exact e0.trans (ld_37_3_35 _)
    refine Stk.runD 17 (fun t H n => t 0 = .ssl (encs c37 a0) a0.length false ∧ t 3 = .sc (.int .i64 (IntKind.i64.wrap (v1 + (IntKind.i64.wrap ((IntKind.i64.wrap (1 + (x6.Kids.length : Int))) + (x6.Bytes.length : Int)))))) ∧ t 4 = .sc (.int .i64 v2) ∧ n0 ≤ n) (fun J hJ => ?_) ?_
    · simp [-splice, f0, f3, f4, f8, i0x6, i1x6, pd23, ex6_4_23, pd35, ex6_3_35]
      exact hJ _ _ _ ⟨by simp [f0], by simp [-splice, f0, f3, f4, f8, i0x6, i1x6, pd23, ex6_4_23, pd35, ex6_3_35], by simp [f4], ln0⟩
    clear f0 f3 f4 f8 ln0
    rintro t H n ⟨f0, f3, f4, ln0⟩
    refine Stk.onD ?_
    refine Stk.sq ?_
    refine Stk.rg ?_
    refine Stk.run 2 (fun t H n => t 0 = .ssl (encs c37 a0) a0.length false ∧ t 3 = .sc (.int .i64 (IntKind.i64.wrap (v1 + (IntKind.i64.wrap ((IntKind.i64.wrap (1 + (x6.Kids.length : Int))) + (x6.Bytes.length : Int)))))) ∧ t 4 = .sc (.int .i64 v2) ∧ t 28 = .sc (.bool (decide (600 < (IntKind.i64.wrap (v1 + (IntKind.i64.wrap ((IntKind.i64.wrap (1 + (x6.Kids.length : Int))) + (x6.Bytes.length : Int))))))))) (fun J hJ => ?_) ?_
    · simp [-splice, f0, f3, f4]
      exact hJ _ _ _ ⟨by simp [f0], by simp [f3], by simp [f4], by simp [-splice, f0, f3, f4]⟩
    clear f0 f3 f4 ln0
    rintro t H n ⟨f0, f3, f4, f28⟩
    refine Stk.on ?_
    refine Stk.cond (decide (600 < (IntKind.i64.wrap (v1 + (IntKind.i64.wrap ((IntKind.i64.wrap (1 + (x6.Kids.length : Int))) + (x6.Bytes.length : Int))))))) (by exact f28) (fun hb7 => ?_) (fun hb7 => ?_)
    · have h := cT hb7 h
      refine Stk.sq ?_
      refine Stk.rg ?_
      refine Stk.run 1 (fun t H n => t 2 = .sc (.bool false)) (fun J hJ => ?_) ?_
      · simp [-splice, f0, f3, f4, f28]
        exact hJ _ _ _ (by simp [-splice, f0, f3, f4, f28])
      clear f0 f3 f4 f28
      rintro t H n f2
      refine Stk.on ?_
      refine Stk.rt ?_
      have hq := Option.some.inj h; subst hq
      exact (hr _ _ _ (.sc (.bool false)) ([]) (by simp [f2]) (.inr (.inr (.free (rfl))))).1
    · have h := cF hb7 h
      refine Stk.sk ?_
      refine Stk.bn ?_
      refine Stk.rg ?_
      refine Stk.run 3 (fun t H n => t 0 = .ssl (encs c37 a0) a0.length false ∧ t 3 = .sc (.int .i64 (IntKind.i64.wrap (v1 + (IntKind.i64.wrap ((IntKind.i64.wrap (1 + (x6.Kids.length : Int))) + (x6.Bytes.length : Int)))))) ∧ t 4 = .sc (.int .i64 (IntKind.i64.wrap (v2 + 1)))) (fun J hJ => ?_) ?_
      · simp [-splice, f0, f3, f4, f28]
        exact hJ _ _ _ ⟨by simp [f0], by simp [f3], by simp [-splice, f0, f3, f4, f28]⟩
      clear f0 f3 f4 f28
      rintro t H n ⟨f0, f3, f4⟩
      refine Stk.on ?_
      exact Stk.ln μ (Nat.lt_succ_self _) (hJ1 _ _ _ _ ⟨(IntKind.i64.wrap (v1 + (IntKind.i64.wrap ((IntKind.i64.wrap (1 + (x6.Kids.length : Int))) + (x6.Bytes.length : Int))))), (IntKind.i64.wrap (v2 + 1)), h, f0, f3, f4⟩)
  · have h := cF hb5 h
    refine Stk.ex rfl ?_
    refine Stk.sq ?_
    refine Stk.rg ?_
    refine Stk.run 1 (fun t H n => t 2 = .sc (.bool true)) (fun J hJ => ?_) ?_
    · simp [-splice, f0, f3, f4, f8]
      exact hJ _ _ _ (by simp [-splice, f0, f3, f4, f8])
    clear f0 f3 f4 f8
    rintro t H n f2
    refine Stk.on ?_
    refine Stk.rt ?_
    have hq := Option.some.inj h; subst hq
    exact (hr _ _ _ (.sc (.bool true)) ([]) (by simp [f2]) (.inr (.inr (.free (rfl))))).1
theorem ok_slices_Equal_api_Edge_api_Edge (F : Nat) (a0 : (List api_Edge)) (a1 : (List api_Edge)) (r : Bool) (h : slices_Equal_api_Edge_api_Edge F a0 a1 = some r) : RunF Try.prog T.T 88 [.ssl (encs c31 a0) a0.length false, .ssl (encs c31 a1) a1.length false] (.sc (.bool r)) := by
  rw [slices_Equal_api_Edge_api_Edge] at h
  refine RunF.z Try.func88 rfl rfl rfl rfl rfl (fun C hr => ?_)
  refine Stk.gen (fun t H n => t 0 = .ssl (encs c31 a0) a0.length false ∧ t 1 = .ssl (encs c31 a1) a1.length false) ⟨by simp, by simp⟩ ?_
  rintro t H n ⟨f0, f1⟩
  refine Stk.sq ?_
  refine Stk.rg ?_
  refine Stk.run 1 (fun t H n => t 0 = .ssl (encs c31 a0) a0.length false ∧ t 1 = .ssl (encs c31 a1) a1.length false) (fun J hJ => ?_) ?_
  · simp [-splice, f0, f1]
    exact hJ _ _ _ ⟨by simp [f0], by simp [f1]⟩
  clear f0 f1
  rintro t H n ⟨f0, f1⟩
  refine Stk.on ?_
  refine Stk.sq ?_
  refine Stk.sq ?_
  refine Stk.rg ?_
  refine Stk.run 5 (fun t H n => t 0 = .ssl (encs c31 a0) a0.length false ∧ t 1 = .ssl (encs c31 a1) a1.length false ∧ t 10 = .sc (.bool ((a0.length : Int) != (a1.length : Int)))) (fun J hJ => ?_) ?_
  · simp [-splice, f0, f1]
    exact hJ _ _ _ ⟨by simp [f0], by simp [f1], by simp [-splice, f0, f1]⟩
  clear f0 f1
  rintro t H n ⟨f0, f1, f10⟩
  refine Stk.on ?_
  refine Stk.cond ((a0.length : Int) != (a1.length : Int)) (by exact f10) (fun hb1 => ?_) (fun hb1 => ?_)
  · have h := cT hb1 h
    refine Stk.sq ?_
    refine Stk.rg ?_
    refine Stk.run 1 (fun t H n => t 4 = .sc (.bool false)) (fun J hJ => ?_) ?_
    · simp [-splice, f0, f1, f10]
      exact hJ _ _ _ (by simp [-splice, f0, f1, f10])
    clear f0 f1 f10
    rintro t H n f4
    refine Stk.on ?_
    refine Stk.rt ?_
    have hq := Option.some.inj h; subst hq
    exact (hr _ _ _ (.sc (.bool false)) ([]) (by simp [f4]) (.inr (.inr (.free (rfl))))).1
  · have h := cF hb1 h
    refine Stk.sk ?_
    refine Stk.sq ?_
    refine Stk.sq ?_
    refine Stk.rg ?_
    refine Stk.run 3 (fun t H n => t 0 = .ssl (encs c31 a0) a0.length false ∧ t 1 = .ssl (encs c31 a1) a1.length false ∧ t 12 = .sc (.int .i64 (a0.length : Int)) ∧ t 13 = .sc (.int .i64 0)) (fun J hJ => ?_) ?_
    · simp [-splice, f0, f1, f10]
      exact hJ _ _ _ ⟨by simp [f0], by simp [f1], by simp [-splice, f0, f1, f10], by simp [-splice, f0, f1, f10]⟩
    clear f0 f1 f10
    rintro t H n ⟨f0, f1, f12, f13⟩
    refine Stk.on ?_
    refine Stk.bk ?_
    refine Stk.lo (fun μ t H n => ∃ v2 : Int, slices_Equal_api_Edge_api_Edge_L0 F a0 a1 μ v2 = some r ∧ t 0 = .ssl (encs c31 a0) a0.length false ∧ t 1 = .ssl (encs c31 a1) a1.length false ∧ t 12 = .sc (.int .i64 (a0.length : Int)) ∧ t 13 = .sc (.int .i64 v2)) F ⟨0, h, f0, f1, f12, f13⟩ ?_
    clear h f0 f1 f12 f13
    rintro J1 hJ1 μ t H n ⟨v2, h, f0, f1, f12, f13⟩
    cases μ with
    | zero => exact absurd h (by simp [slices_Equal_api_Edge_api_Edge_L0])
    | succ μ =>
    rw [slices_Equal_api_Edge_api_Edge_L0] at h
    refine Stk.sq ?_
    refine Stk.rg ?_
    refine Stk.run 1 (fun t H n => t 0 = .ssl (encs c31 a0) a0.length false ∧ t 1 = .ssl (encs c31 a1) a1.length false ∧ t 12 = .sc (.int .i64 (a0.length : Int)) ∧ t 13 = .sc (.int .i64 v2) ∧ t 14 = .sc (.bool (decide (v2 < (a0.length : Int))))) (fun J hJ => ?_) ?_
    · simp [-splice, f0, f1, f12, f13]
      exact hJ _ _ _ ⟨by simp [f0], by simp [f1], by simp [f12], by simp [f13], by simp [-splice, f0, f1, f12, f13]⟩
    clear f0 f1 f12 f13
    rintro t H n ⟨f0, f1, f12, f13, f14⟩
    refine Stk.on ?_
    refine Stk.sq ?_
    refine Stk.cond (decide (v2 < (a0.length : Int))) (by exact f14) (fun hb4 => ?_) (fun hb4 => ?_)
    · have h := cT hb4 h
      refine Stk.sk ?_
      refine Stk.sq ?_
      refine Stk.bk ?_
      refine Stk.sq ?_
      refine Stk.rg ?_
      refine Stk.run 2 (fun t H n => t 0 = .ssl (encs c31 a0) a0.length false ∧ t 1 = .ssl (encs c31 a1) a1.length false ∧ t 5 = .sc (.int .i64 v2) ∧ t 12 = .sc (.int .i64 (a0.length : Int)) ∧ t 13 = .sc (.int .i64 v2)) (fun J hJ => ?_) ?_
      · simp [-splice, f0, f1, f12, f13, f14]
        exact hJ _ _ _ ⟨by simp [f0], by simp [f1], by simp [-splice, f0, f1, f12, f13, f14], by simp [f12], by simp [f13]⟩
      clear f0 f1 f12 f13 f14
      rintro t H n ⟨f0, f1, f5, f12, f13⟩
      refine Stk.on ?_
      refine Stk.sq ?_
      obtain ⟨n0, hn0⟩ : ∃ m, m = n := ⟨n, rfl⟩
      have ln0 : n0 ≤ n := Nat.le_of_eq hn0
      refine Stk.rgD [.rd [], .rd [], .rd [], .rd [], .rd [], .rd [], .rd [], .rd [], .rd []] none (by kernel_rfl) (by rfl) rfl (by simp [below]) rfl ?_
      obtain ⟨x5, hx5, h⟩ := bnd h
      obtain ⟨i0x5, i1x5, i2x5, _⟩ := idx_ok hx5
      have ex5_0_31 : partOf T.T 31 (encs c31 a0) (v2.toNat * 3) = some (.agg (c31 x5)) := by
          have e0 := part_elem0 (e := c31) (z := 3) (T := T.T) (ty := 31) T.t31 (by decide) (by decide) hx5 0 (by decide)
          (try simp only [Nat.mul_one, Nat.add_zero] at e0)
          exact e0.trans (ld_31_0_31 _)
      obtain ⟨x6, hx6, h⟩ := bnd h
      obtain ⟨i0x6, i1x6, i2x6, _⟩ := idx_ok hx6
      have ex6_0_31 : partOf T.T 31 (encs c31 a1) (v2.toNat * 3) = some (.agg (c31 x6)) := by
          have e0 := part_elem0 (e := c31) (z := 3) (T := T.T) (ty := 31) T.t31 (by decide) (by decide) hx6 0 (by decide)
          (try simp only [Nat.mul_one, Nat.add_zero] at e0)
          exact e0.trans (ld_31_0_31 _)
      refine Stk.runD 9 (fun t H n => t 0 = .ssl (encs c31 a0) a0.length false ∧ t 1 = .ssl (encs c31 a1) a1.length false ∧ t 12 = .sc (.int .i64 (a0.length : Int)) ∧ t 13 = .sc (.int .i64 v2) ∧ t 24 = .sc (.bool (!((x5.Is == x6.Is) && ((x5.Node == x6.Node) && ((x5.Num == x6.Num)))))) ∧ n0 ≤ n) (fun J hJ => ?_) ?_
      · simp [-splice, f0, f1, f5, f12, f13, i0x5, i1x5, pd31, ex5_0_31, i0x6, i1x6, ex6_0_31, eqM31]
        exact hJ _ _ _ ⟨by simp [f0], by simp [f1], by simp [f12], by simp [f13], by simp [-splice, f0, f1, f5, f12, f13, i0x5, i1x5, pd31, ex5_0_31, i0x6, i1x6, ex6_0_31, eqM31], ln0⟩
      clear f0 f1 f5 f12 f13 ln0
      rintro t H n ⟨f0, f1, f12, f13, f24, ln0⟩
      refine Stk.onD ?_
      refine Stk.cond (!((x5.Is == x6.Is) && ((x5.Node == x6.Node) && ((x5.Num == x6.Num))))) (by exact f24) (fun hb7 => ?_) (fun hb7 => ?_)
      · have h := cT hb7 h
        refine Stk.sq ?_
        refine Stk.rg ?_
        refine Stk.run 1 (fun t H n => t 4 = .sc (.bool false)) (fun J hJ => ?_) ?_
        · simp [-splice, f0, f1, f12, f13, f24]
          exact hJ _ _ _ (by simp [-splice, f0, f1, f12, f13, f24])
        clear f0 f1 f12 f13 f24 ln0
        rintro t H n f4
        refine Stk.on ?_
        refine Stk.rt ?_
        have hq := Option.some.inj h; subst hq
        exact (hr _ _ _ (.sc (.bool false)) ([]) (by simp [f4]) (.inr (.inr (.free (rfl))))).1
      · have h := cF hb7 h
        refine Stk.sk ?_
        refine Stk.bn ?_
        refine Stk.rg ?_
        refine Stk.run 2 (fun t H n => t 0 = .ssl (encs c31 a0) a0.length false ∧ t 1 = .ssl (encs c31 a1) a1.length false ∧ t 12 = .sc (.int .i64 (a0.length : Int)) ∧ t 13 = .sc (.int .i64 (IntKind.i64.wrap (v2 + 1)))) (fun J hJ => ?_) ?_
        · simp [-splice, f0, f1, f12, f13, f24]
          exact hJ _ _ _ ⟨by simp [f0], by simp [f1], by simp [f12], by simp [-splice, f0, f1, f12, f13, f24]⟩
        clear f0 f1 f12 f13 f24 ln0
        rintro t H n ⟨f0, f1, f12, f13⟩
        refine Stk.on ?_
        exact Stk.ln μ (Nat.lt_succ_self _) (hJ1 _ _ _ _ ⟨(IntKind.i64.wrap (v2 + 1)), h, f0, f1, f12, f13⟩)
    · have h := cF hb4 h
      refine Stk.ex rfl ?_
      refine Stk.sq ?_
      refine Stk.rg ?_
      refine Stk.run 1 (fun t H n => t 4 = .sc (.bool true)) (fun J hJ => ?_) ?_
      · simp [-splice, f0, f1, f12, f13, f14]
        exact hJ _ _ _ (by simp [-splice, f0, f1, f12, f13, f14])
      clear f0 f1 f12 f13 f14
      rintro t H n f4
      refine Stk.on ?_
      refine Stk.rt ?_
      have hq := Option.some.inj h; subst hq
      exact (hr _ _ _ (.sc (.bool true)) ([]) (by simp [f4]) (.inr (.inr (.free (rfl))))).1
theorem ok_slices_EqualFunc_api_Node_api_Node_api_Node_api_Node (F : Nat) (a0 : (List api_Node)) (a1 : (List api_Node)) (φ2 : api_Node → api_Node → Option Bool) (g2 : FuncId) (first2 caps2 : List AV) (fr2 : freeL first2 = true ∧ freeL caps2 = true) (hφ2 : ∀ y0 y1 r, φ2 y0 y1 = some r → RunF Try.prog T.T g2 (first2 ++ [.agg (c37 y0), .agg (c37 y1)] ++ caps2) (.sc (.bool r))) (r : Bool) (h : slices_EqualFunc_api_Node_api_Node_api_Node_api_Node F a0 a1 φ2 = some r) : RunF Try.prog T.T 89 [.ssl (encs c37 a0) a0.length false, .ssl (encs c37 a1) a1.length false, .fn (.func g2) first2 caps2] (.sc (.bool r)) := by
  rw [slices_EqualFunc_api_Node_api_Node_api_Node_api_Node] at h
  refine RunF.z Try.func89 rfl rfl rfl rfl rfl (fun C hr => ?_)
  refine Stk.gen (fun t H n => t 0 = .ssl (encs c37 a0) a0.length false ∧ t 1 = .ssl (encs c37 a1) a1.length false ∧ t 2 = .fn (.func g2) first2 caps2) ⟨by simp, by simp, by simp⟩ ?_
  rintro t H n ⟨f0, f1, f2⟩
  refine Stk.sq ?_
  refine Stk.rg ?_
  refine Stk.run 1 (fun t H n => t 0 = .ssl (encs c37 a0) a0.length false ∧ t 1 = .ssl (encs c37 a1) a1.length false ∧ t 2 = .fn (.func g2) first2 caps2) (fun J hJ => ?_) ?_
  · simp [-splice, f0, f1, f2]
    exact hJ _ _ _ ⟨by simp [f0], by simp [f1], by simp [f2]⟩
  clear f0 f1 f2
  rintro t H n ⟨f0, f1, f2⟩
  refine Stk.on ?_
  refine Stk.sq ?_
  refine Stk.sq ?_
  refine Stk.rg ?_
  refine Stk.run 5 (fun t H n => t 0 = .ssl (encs c37 a0) a0.length false ∧ t 1 = .ssl (encs c37 a1) a1.length false ∧ t 2 = .fn (.func g2) first2 caps2 ∧ t 14 = .sc (.bool ((a0.length : Int) != (a1.length : Int)))) (fun J hJ => ?_) ?_
  · simp [-splice, f0, f1, f2]
    exact hJ _ _ _ ⟨by simp [f0], by simp [f1], by simp [f2], by simp [-splice, f0, f1, f2]⟩
  clear f0 f1 f2
  rintro t H n ⟨f0, f1, f2, f14⟩
  refine Stk.on ?_
  refine Stk.cond ((a0.length : Int) != (a1.length : Int)) (by exact f14) (fun hb1 => ?_) (fun hb1 => ?_)
  · have h := cT hb1 h
    refine Stk.sq ?_
    refine Stk.rg ?_
    refine Stk.run 1 (fun t H n => t 6 = .sc (.bool false)) (fun J hJ => ?_) ?_
    · simp [-splice, f0, f1, f2, f14]
      exact hJ _ _ _ (by simp [-splice, f0, f1, f2, f14])
    clear f0 f1 f2 f14
    rintro t H n f6
    refine Stk.on ?_
    refine Stk.rt ?_
    have hq := Option.some.inj h; subst hq
    exact (hr _ _ _ (.sc (.bool false)) ([]) (by simp [f6]) (.inr (.inr (.free (rfl))))).1
  · have h := cF hb1 h
    refine Stk.sk ?_
    refine Stk.sq ?_
    refine Stk.sq ?_
    refine Stk.rg ?_
    refine Stk.run 3 (fun t H n => t 1 = .ssl (encs c37 a1) a1.length false ∧ t 2 = .fn (.func g2) first2 caps2 ∧ t 15 = .ssl (encs c37 a0) a0.length false ∧ t 16 = .sc (.int .i64 (a0.length : Int)) ∧ t 17 = .sc (.int .i64 0)) (fun J hJ => ?_) ?_
    · simp [-splice, f0, f1, f2, f14]
      exact hJ _ _ _ ⟨by simp [f1], by simp [f2], by simp [-splice, f0, f1, f2, f14], by simp [-splice, f0, f1, f2, f14], by simp [-splice, f0, f1, f2, f14]⟩
    clear f0 f1 f2 f14
    rintro t H n ⟨f1, f2, f15, f16, f17⟩
    refine Stk.on ?_
    refine Stk.bk ?_
    refine Stk.lo (fun μ t H n => ∃ v2 : Int, slices_EqualFunc_api_Node_api_Node_api_Node_api_Node_L0 F a0 a1 φ2 μ v2 = some r ∧ t 1 = .ssl (encs c37 a1) a1.length false ∧ t 2 = .fn (.func g2) first2 caps2 ∧ t 15 = .ssl (encs c37 a0) a0.length false ∧ t 16 = .sc (.int .i64 (a0.length : Int)) ∧ t 17 = .sc (.int .i64 v2)) F ⟨0, h, f1, f2, f15, f16, f17⟩ ?_
    clear h f1 f2 f15 f16 f17
    rintro J1 hJ1 μ t H n ⟨v2, h, f1, f2, f15, f16, f17⟩
    cases μ with
    | zero => exact absurd h (by simp [slices_EqualFunc_api_Node_api_Node_api_Node_api_Node_L0])
    | succ μ =>
    rw [slices_EqualFunc_api_Node_api_Node_api_Node_api_Node_L0] at h
    refine Stk.sq ?_
    refine Stk.rg ?_
    refine Stk.run 1 (fun t H n => t 1 = .ssl (encs c37 a1) a1.length false ∧ t 2 = .fn (.func g2) first2 caps2 ∧ t 15 = .ssl (encs c37 a0) a0.length false ∧ t 16 = .sc (.int .i64 (a0.length : Int)) ∧ t 17 = .sc (.int .i64 v2) ∧ t 18 = .sc (.bool (decide (v2 < (a0.length : Int))))) (fun J hJ => ?_) ?_
    · simp [-splice, f1, f2, f15, f16, f17]
      exact hJ _ _ _ ⟨by simp [f1], by simp [f2], by simp [f15], by simp [f16], by simp [f17], by simp [-splice, f1, f2, f15, f16, f17]⟩
    clear f1 f2 f15 f16 f17
    rintro t H n ⟨f1, f2, f15, f16, f17, f18⟩
    refine Stk.on ?_
    refine Stk.sq ?_
    refine Stk.cond (decide (v2 < (a0.length : Int))) (by exact f18) (fun hb4 => ?_) (fun hb4 => ?_)
    · have h := cT hb4 h
      refine Stk.sk ?_
      refine Stk.sq ?_
      refine Stk.bk ?_
      refine Stk.sq ?_
      refine Stk.rg ?_
      obtain ⟨x5, hx5, h⟩ := bnd h
      obtain ⟨i0x5, i1x5, i2x5, _⟩ := idx_ok hx5
      have ex5_0_37 : partOf T.T 37 (encs c37 a0) (v2.toNat * 5) = some (.agg (c37 x5)) := by
          have e0 := part_elem0 (e := c37) (z := 5) (T := T.T) (ty := 37) T.t37 (by decide) (by decide) hx5 0 (by decide)
          (try simp only [Nat.mul_one, Nat.add_zero] at e0)
          exact e0.trans (ld_37_0_37 _)
      refine Stk.run 3 (fun t H n => t 1 = .ssl (encs c37 a1) a1.length false ∧ t 2 = .fn (.func g2) first2 caps2 ∧ t 15 = .ssl (encs c37 a0) a0.length false ∧ t 16 = .sc (.int .i64 (a0.length : Int)) ∧ t 17 = .sc (.int .i64 v2) ∧ t 19 = .sc (.int .i64 v2) ∧ t 21 = .agg (c37 x5)) (fun J hJ => ?_) ?_
      · simp [-splice, f1, f2, f15, f16, f17, f18, i0x5, i1x5, pd37, ex5_0_37]
        exact hJ _ _ _ ⟨by simp [f1], by simp [f2], by simp [f15], by simp [f16], by simp [f17], by simp [-splice, f1, f2, f15, f16, f17, f18, i0x5, i1x5, pd37, ex5_0_37], by simp [-splice, f1, f2, f15, f16, f17, f18, i0x5, i1x5, pd37, ex5_0_37]⟩
      clear f1 f2 f15 f16 f17 f18
      rintro t H n ⟨f1, f2, f15, f16, f17, f19, f21⟩
      refine Stk.oz T.t37 (cs := c37 (api_Node.mk (api_Head.mk 0 0 0) [] [])) (by rfl) rfl (by simp [f1, f2, f15, f16, f17, f19, f21]) rfl (fun t' ht' => ?_)
      refine Stk.gen (fun t H n => ∃ b6, t 1 = .ssl (encs c37 a1) a1.length false ∧ t 2 = .fn (.func g2) first2 caps2 ∧ t 8 = .own b6 0 ∧ t 15 = .ssl (encs c37 a0) a0.length false ∧ t 16 = .sc (.int .i64 (a0.length : Int)) ∧ t 17 = .sc (.int .i64 v2) ∧ t 19 = .sc (.int .i64 v2) ∧ t 21 = .agg (c37 x5) ∧ H b6 = some (.cells (c37 (api_Node.mk (api_Head.mk 0 0 0) [] [])) 37) ∧ b6 < n) ⟨n, by simp [ht', f1], by simp [ht', f2], by simp [ht'], by simp [ht', f15], by simp [ht', f16], by simp [ht', f17], by simp [ht', f19], by simp [ht', f21], upd_same _ _ _, Nat.lt_succ_self _⟩ ?_
      clear f1 f2 f15 f16 f17 f19 f21 ht' t'
      rintro t H n ⟨b6, f1, f2, f8, f15, f16, f17, f19, f21, b_b6, l_b6⟩
      refine Stk.run 1 (fun t H n => t 1 = .ssl (encs c37 a1) a1.length false ∧ t 2 = .fn (.func g2) first2 caps2 ∧ t 7 = .sc (.int .i64 v2) ∧ t 8 = .own b6 0 ∧ t 15 = .ssl (encs c37 a0) a0.length false ∧ t 16 = .sc (.int .i64 (a0.length : Int)) ∧ t 17 = .sc (.int .i64 v2) ∧ t 21 = .agg (c37 x5) ∧ H b6 = some (.cells (c37 (api_Node.mk (api_Head.mk 0 0 0) [] [])) 37) ∧ b6 < n) (fun J hJ => ?_) ?_
      · simp [-splice, f1, f2, f8, f15, f16, f17, f19, f21, b_b6]
        exact hJ _ _ _ ⟨by simp [f1], by simp [f2], by simp [-splice, f1, f2, f8, f15, f16, f17, f19, f21, b_b6], by simp [f8], by simp [f15], by simp [f16], by simp [f17], by simp [f21], b_b6, l_b6⟩
      clear f1 f2 f8 f15 f16 f17 f19 f21 b_b6 l_b6
      rintro t H n ⟨f1, f2, f7, f8, f15, f16, f17, f21, b_b6, l_b6⟩
      refine Stk.om (mop_store (z := 5) rfl f8 b_b6 f21 (len37 _) (by rw [len37]; decide) (ok37 _) (st_37_0_37 _ _)) (by simp [f1, f2, f7, f8, f15, f16, f17, f21]) rfl (fun t' ht' => ?_)
      refine Stk.gen (fun t H n => t 1 = .ssl (encs c37 a1) a1.length false ∧ t 2 = .fn (.func g2) first2 caps2 ∧ t 7 = .sc (.int .i64 v2) ∧ t 8 = .own b6 0 ∧ t 15 = .ssl (encs c37 a0) a0.length false ∧ t 16 = .sc (.int .i64 (a0.length : Int)) ∧ t 17 = .sc (.int .i64 v2) ∧ H b6 = some (.cells (c37 x5) 37) ∧ b6 < n) ⟨by simp [ht', f1], by simp [ht', f2], by simp [ht', f7], by simp [ht', f8], by simp [ht', f15], by simp [ht', f16], by simp [ht', f17], upd_same _ _ _, l_b6⟩ ?_
      clear f1 f2 f7 f8 f15 f16 f17 f21 b_b6 l_b6 ht' t'
      rintro t H n ⟨f1, f2, f7, f8, f15, f16, f17, b_b6, l_b6⟩
      refine Stk.on ?_
      refine Stk.sq ?_
      refine Stk.rg ?_
      obtain ⟨x7, hx7, h⟩ := bnd h
      obtain ⟨i0x7, i1x7, i2x7, _⟩ := idx_ok hx7
      have ex7_0_37 : partOf T.T 37 (encs c37 a1) (v2.toNat * 5) = some (.agg (c37 x7)) := by
          have e0 := part_elem0 (e := c37) (z := 5) (T := T.T) (ty := 37) T.t37 (by decide) (by decide) hx7 0 (by decide)
          (try simp only [Nat.mul_one, Nat.add_zero] at e0)
          exact e0.trans (ld_37_0_37 _)
      refine Stk.run 4 (fun t H n => t 1 = .ssl (encs c37 a1) a1.length false ∧ t 2 = .fn (.func g2) first2 caps2 ∧ t 8 = .own b6 0 ∧ t 15 = .ssl (encs c37 a0) a0.length false ∧ t 16 = .sc (.int .i64 (a0.length : Int)) ∧ t 17 = .sc (.int .i64 v2) ∧ t 25 = .agg (c37 x7) ∧ H b6 = some (.cells (c37 x5) 37) ∧ b6 < n) (fun J hJ => ?_) ?_
      · simp [-splice, f1, f2, f7, f8, f15, f16, f17, b_b6, i0x7, i1x7, pd37, ex7_0_37]
        exact hJ _ _ _ ⟨by simp [f1], by simp [f2], by simp [f8], by simp [f15], by simp [f16], by simp [f17], by simp [-splice, f1, f2, f7, f8, f15, f16, f17, b_b6, i0x7, i1x7, pd37, ex7_0_37], b_b6, l_b6⟩
      clear f1 f2 f7 f8 f15 f16 f17 b_b6 l_b6
      rintro t H n ⟨f1, f2, f8, f15, f16, f17, f25, b_b6, l_b6⟩
      refine Stk.oz T.t37 (cs := c37 (api_Node.mk (api_Head.mk 0 0 0) [] [])) (by rfl) rfl (by simp [f1, f2, f8, f15, f16, f17, f25]) rfl (fun t' ht' => ?_)
      refine Stk.gen (fun t H n => ∃ b8, t 1 = .ssl (encs c37 a1) a1.length false ∧ t 2 = .fn (.func g2) first2 caps2 ∧ t 8 = .own b6 0 ∧ t 9 = .own b8 0 ∧ t 15 = .ssl (encs c37 a0) a0.length false ∧ t 16 = .sc (.int .i64 (a0.length : Int)) ∧ t 17 = .sc (.int .i64 v2) ∧ t 25 = .agg (c37 x7) ∧ H b6 = some (.cells (c37 x5) 37) ∧ b6 < n ∧ H b8 = some (.cells (c37 (api_Node.mk (api_Head.mk 0 0 0) [] [])) 37) ∧ b8 < n ∧ b6 ≠ b8) ⟨n, by simp [ht', f1], by simp [ht', f2], by simp [ht', f8], by simp [ht'], by simp [ht', f15], by simp [ht', f16], by simp [ht', f17], by simp [ht', f25], (upd_ne _ _ (Nat.ne_of_lt l_b6)).trans b_b6, Nat.lt_succ_of_lt l_b6, upd_same _ _ _, Nat.lt_succ_self _, Nat.ne_of_lt l_b6⟩ ?_
      clear f1 f2 f8 f15 f16 f17 f25 b_b6 l_b6 ht' t'
      rintro t H n ⟨b8, f1, f2, f8, f9, f15, f16, f17, f25, b_b6, l_b6, b_b8, l_b8, d_b6_b8⟩
      refine Stk.om (mop_store (z := 5) rfl f9 b_b8 f25 (len37 _) (by rw [len37]; decide) (ok37 _) (st_37_0_37 _ _)) (by simp [f1, f2, f8, f9, f15, f16, f17, f25]) rfl (fun t' ht' => ?_)
      refine Stk.gen (fun t H n => t 1 = .ssl (encs c37 a1) a1.length false ∧ t 2 = .fn (.func g2) first2 caps2 ∧ t 8 = .own b6 0 ∧ t 9 = .own b8 0 ∧ t 15 = .ssl (encs c37 a0) a0.length false ∧ t 16 = .sc (.int .i64 (a0.length : Int)) ∧ t 17 = .sc (.int .i64 v2) ∧ H b6 = some (.cells (c37 x5) 37) ∧ b6 < n ∧ H b8 = some (.cells (c37 x7) 37) ∧ b8 < n ∧ b6 ≠ b8) ⟨by simp [ht', f1], by simp [ht', f2], by simp [ht', f8], by simp [ht', f9], by simp [ht', f15], by simp [ht', f16], by simp [ht', f17], (upd_ne _ _ d_b6_b8).trans b_b6, l_b6, upd_same _ _ _, l_b8, d_b6_b8⟩ ?_
      clear f1 f2 f8 f9 f15 f16 f17 f25 b_b6 l_b6 b_b8 l_b8 d_b6_b8 ht' t'
      rintro t H n ⟨f1, f2, f8, f9, f15, f16, f17, b_b6, l_b6, b_b8, l_b8, d_b6_b8⟩
      refine Stk.on ?_
      refine Stk.sq ?_
      refine Stk.rg ?_
      refine Stk.run 3 (fun t H n => t 1 = .ssl (encs c37 a1) a1.length false ∧ t 2 = .fn (.func g2) first2 caps2 ∧ t 15 = .ssl (encs c37 a0) a0.length false ∧ t 16 = .sc (.int .i64 (a0.length : Int)) ∧ t 17 = .sc (.int .i64 v2) ∧ t 26 = .fn (.func g2) first2 caps2 ∧ t 27 = .agg (c37 x5) ∧ t 28 = .agg (c37 x7)) (fun J hJ => ?_) ?_
      · simp [-splice, f1, f2, f8, f9, f15, f16, f17, b_b6, b_b8, ld_37_0_37]
        exact hJ _ _ _ ⟨by simp [f1], by simp [f2], by simp [f15], by simp [f16], by simp [f17], by simp [-splice, f1, f2, f8, f9, f15, f16, f17, b_b6, b_b8, ld_37_0_37], by simp [-splice, f1, f2, f8, f9, f15, f16, f17, b_b6, b_b8, ld_37_0_37], by simp [-splice, f1, f2, f8, f9, f15, f16, f17, b_b6, b_b8, ld_37_0_37]⟩
      clear f1 f2 f8 f9 f15 f16 f17 b_b6 l_b6 b_b8 l_b8 d_b6_b8
      rintro t H n ⟨f1, f2, f15, f16, f17, f26, f27, f28⟩
      obtain ⟨x9, hx9, h⟩ := bnd h
      refine Stk.cv (g := g2) (args := first2 ++ [.agg (c37 x5), .agg (c37 x7)] ++ caps2) (args' := first2 ++ [.agg (c37 x5), .agg (c37 x7)] ++ caps2) (v := .sc (.bool x9)) [] (hφ2 _ _ _ hx9) (by simp [f1, f2, f15, f16, f17, f26, f27, f28]) rfl f26 (by simp [f1, f2, f15, f16, f17, f26, f27, f28]) (viewL_mid (x := [.agg (c37 x5), .agg (c37 x7)]) (y := [.agg (c37 x5), .agg (c37 x7)]) fr2.1 fr2.2 (.cons (.free (fr37 _)) (.cons (.free (fr37 _)) (.nil)))) (.inl ⟨rfl, rfl⟩) (fun t' ht' => ?_)
      refine Stk.gen (fun t H n => t 1 = .ssl (encs c37 a1) a1.length false ∧ t 2 = .fn (.func g2) first2 caps2 ∧ t 15 = .ssl (encs c37 a0) a0.length false ∧ t 16 = .sc (.int .i64 (a0.length : Int)) ∧ t 17 = .sc (.int .i64 v2) ∧ t 29 = .sc (.bool x9)) ⟨by simp [ht', f1], by simp [ht', f2], by simp [ht', f15], by simp [ht', f16], by simp [ht', f17], by simp [ht']⟩ ?_
      clear f1 f2 f15 f16 f17 f26 f27 f28 ht' t'
      rintro t H n ⟨f1, f2, f15, f16, f17, f29⟩
      refine Stk.run 1 (fun t H n => t 1 = .ssl (encs c37 a1) a1.length false ∧ t 2 = .fn (.func g2) first2 caps2 ∧ t 15 = .ssl (encs c37 a0) a0.length false ∧ t 16 = .sc (.int .i64 (a0.length : Int)) ∧ t 17 = .sc (.int .i64 v2) ∧ t 30 = .sc (.bool (!x9))) (fun J hJ => ?_) ?_
      · simp [-splice, f1, f2, f15, f16, f17, f29]
        exact hJ _ _ _ ⟨by simp [f1], by simp [f2], by simp [f15], by simp [f16], by simp [f17], by simp [-splice, f1, f2, f15, f16, f17, f29]⟩
      clear f1 f2 f15 f16 f17 f29
      rintro t H n ⟨f1, f2, f15, f16, f17, f30⟩
      refine Stk.on ?_
      refine Stk.cond (!x9) (by exact f30) (fun hb10 => ?_) (fun hb10 => ?_)
      · have h := cT hb10 h
        refine Stk.sq ?_
        refine Stk.rg ?_
        refine Stk.run 1 (fun t H n => t 6 = .sc (.bool false)) (fun J hJ => ?_) ?_
        · simp [-splice, f1, f2, f15, f16, f17, f30]
          exact hJ _ _ _ (by simp [-splice, f1, f2, f15, f16, f17, f30])
        clear f1 f2 f15 f16 f17 f30
        rintro t H n f6
        refine Stk.on ?_
        refine Stk.rt ?_
        have hq := Option.some.inj h; subst hq
        exact (hr _ _ _ (.sc (.bool false)) ([]) (by simp [f6]) (.inr (.inr (.free (rfl))))).1
      · have h := cF hb10 h
        refine Stk.sk ?_
        refine Stk.bn ?_
        refine Stk.rg ?_
        refine Stk.run 2 (fun t H n => t 1 = .ssl (encs c37 a1) a1.length false ∧ t 2 = .fn (.func g2) first2 caps2 ∧ t 15 = .ssl (encs c37 a0) a0.length false ∧ t 16 = .sc (.int .i64 (a0.length : Int)) ∧ t 17 = .sc (.int .i64 (IntKind.i64.wrap (v2 + 1)))) (fun J hJ => ?_) ?_
        · simp [-splice, f1, f2, f15, f16, f17, f30]
          exact hJ _ _ _ ⟨by simp [f1], by simp [f2], by simp [f15], by simp [f16], by simp [-splice, f1, f2, f15, f16, f17, f30]⟩
        clear f1 f2 f15 f16 f17 f30
        rintro t H n ⟨f1, f2, f15, f16, f17⟩
        refine Stk.on ?_
        exact Stk.ln μ (Nat.lt_succ_self _) (hJ1 _ _ _ _ ⟨(IntKind.i64.wrap (v2 + 1)), h, f1, f2, f15, f16, f17⟩)
    · have h := cF hb4 h
      refine Stk.ex rfl ?_
      refine Stk.sq ?_
      refine Stk.rg ?_
      refine Stk.run 1 (fun t H n => t 6 = .sc (.bool true)) (fun J hJ => ?_) ?_
      · simp [-splice, f1, f2, f15, f16, f17, f18]
        exact hJ _ _ _ (by simp [-splice, f1, f2, f15, f16, f17, f18])
      clear f1 f2 f15 f16 f17 f18
      rintro t H n f6
      refine Stk.on ?_
      refine Stk.rt ?_
      have hq := Option.some.inj h; subst hq
      exact (hr _ _ _ (.sc (.bool true)) ([]) (by simp [f6]) (.inr (.inr (.free (rfl))))).1
theorem ok_slices_Equal_byte_byte (F : Nat) (a0 : (List Int)) (a1 : (List Int)) (r : Bool) (h : slices_Equal_byte_byte F a0 a1 = some r) : RunF Try.prog T.T 91 [.ssl (encs c5 a0) a0.length false, .ssl (encs c5 a1) a1.length false] (.sc (.bool r)) := by
  rw [slices_Equal_byte_byte] at h
  refine RunF.z Try.func91 rfl rfl rfl rfl rfl (fun C hr => ?_)
  refine Stk.gen (fun t H n => t 0 = .ssl (encs c5 a0) a0.length false ∧ t 1 = .ssl (encs c5 a1) a1.length false) ⟨by simp, by simp⟩ ?_
  rintro t H n ⟨f0, f1⟩
  refine Stk.sq ?_
  refine Stk.rg ?_
  refine Stk.run 1 (fun t H n => t 0 = .ssl (encs c5 a0) a0.length false ∧ t 1 = .ssl (encs c5 a1) a1.length false) (fun J hJ => ?_) ?_
  · simp [-splice, f0, f1]
    exact hJ _ _ _ ⟨by simp [f0], by simp [f1]⟩
  clear f0 f1
  rintro t H n ⟨f0, f1⟩
  refine Stk.on ?_
  refine Stk.sq ?_
  refine Stk.sq ?_
  refine Stk.rg ?_
  refine Stk.run 5 (fun t H n => t 0 = .ssl (encs c5 a0) a0.length false ∧ t 1 = .ssl (encs c5 a1) a1.length false ∧ t 10 = .sc (.bool ((a0.length : Int) != (a1.length : Int)))) (fun J hJ => ?_) ?_
  · simp [-splice, f0, f1]
    exact hJ _ _ _ ⟨by simp [f0], by simp [f1], by simp [-splice, f0, f1]⟩
  clear f0 f1
  rintro t H n ⟨f0, f1, f10⟩
  refine Stk.on ?_
  refine Stk.cond ((a0.length : Int) != (a1.length : Int)) (by exact f10) (fun hb1 => ?_) (fun hb1 => ?_)
  · have h := cT hb1 h
    refine Stk.sq ?_
    refine Stk.rg ?_
    refine Stk.run 1 (fun t H n => t 4 = .sc (.bool false)) (fun J hJ => ?_) ?_
    · simp [-splice, f0, f1, f10]
      exact hJ _ _ _ (by simp [-splice, f0, f1, f10])
    clear f0 f1 f10
    rintro t H n f4
    refine Stk.on ?_
    refine Stk.rt ?_
    have hq := Option.some.inj h; subst hq
    exact (hr _ _ _ (.sc (.bool false)) ([]) (by simp [f4]) (.inr (.inr (.free (rfl))))).1
  · have h := cF hb1 h
    refine Stk.sk ?_
    refine Stk.sq ?_
    refine Stk.sq ?_
    refine Stk.rg ?_
    refine Stk.run 3 (fun t H n => t 0 = .ssl (encs c5 a0) a0.length false ∧ t 1 = .ssl (encs c5 a1) a1.length false ∧ t 12 = .sc (.int .i64 (a0.length : Int)) ∧ t 13 = .sc (.int .i64 0)) (fun J hJ => ?_) ?_
    · simp [-splice, f0, f1, f10]
      exact hJ _ _ _ ⟨by simp [f0], by simp [f1], by simp [-splice, f0, f1, f10], by simp [-splice, f0, f1, f10]⟩
    clear f0 f1 f10
    rintro t H n ⟨f0, f1, f12, f13⟩
    refine Stk.on ?_
    refine Stk.bk ?_
    refine Stk.lo (fun μ t H n => ∃ v2 : Int, slices_Equal_byte_byte_L0 F a0 a1 μ v2 = some r ∧ t 0 = .ssl (encs c5 a0) a0.length false ∧ t 1 = .ssl (encs c5 a1) a1.length false ∧ t 12 = .sc (.int .i64 (a0.length : Int)) ∧ t 13 = .sc (.int .i64 v2)) F ⟨0, h, f0, f1, f12, f13⟩ ?_
    clear h f0 f1 f12 f13
    rintro J1 hJ1 μ t H n ⟨v2, h, f0, f1, f12, f13⟩
    cases μ with
    | zero => exact absurd h (by simp [slices_Equal_byte_byte_L0])
    | succ μ =>
    rw [slices_Equal_byte_byte_L0] at h
    refine Stk.sq ?_
    refine Stk.rg ?_
    refine Stk.run 1 (fun t H n => t 0 = .ssl (encs c5 a0) a0.length false ∧ t 1 = .ssl (encs c5 a1) a1.length false ∧ t 12 = .sc (.int .i64 (a0.length : Int)) ∧ t 13 = .sc (.int .i64 v2) ∧ t 14 = .sc (.bool (decide (v2 < (a0.length : Int))))) (fun J hJ => ?_) ?_
    · simp [-splice, f0, f1, f12, f13]
      exact hJ _ _ _ ⟨by simp [f0], by simp [f1], by simp [f12], by simp [f13], by simp [-splice, f0, f1, f12, f13]⟩
    clear f0 f1 f12 f13
    rintro t H n ⟨f0, f1, f12, f13, f14⟩
    refine Stk.on ?_
    refine Stk.sq ?_
    refine Stk.cond (decide (v2 < (a0.length : Int))) (by exact f14) (fun hb4 => ?_) (fun hb4 => ?_)
    · have h := cT hb4 h
      refine Stk.sk ?_
      refine Stk.sq ?_
      refine Stk.bk ?_
      refine Stk.sq ?_
      refine Stk.rg ?_
      refine Stk.run 2 (fun t H n => t 0 = .ssl (encs c5 a0) a0.length false ∧ t 1 = .ssl (encs c5 a1) a1.length false ∧ t 5 = .sc (.int .i64 v2) ∧ t 12 = .sc (.int .i64 (a0.length : Int)) ∧ t 13 = .sc (.int .i64 v2)) (fun J hJ => ?_) ?_
      · simp [-splice, f0, f1, f12, f13, f14]
        exact hJ _ _ _ ⟨by simp [f0], by simp [f1], by simp [-splice, f0, f1, f12, f13, f14], by simp [f12], by simp [f13]⟩
      clear f0 f1 f12 f13 f14
      rintro t H n ⟨f0, f1, f5, f12, f13⟩
      refine Stk.on ?_
      refine Stk.sq ?_
      obtain ⟨n0, hn0⟩ : ∃ m, m = n := ⟨n, rfl⟩
      have ln0 : n0 ≤ n := Nat.le_of_eq hn0
      refine Stk.rgD [.rd [], .rd [], .rd [], .rd [], .rd [], .rd [], .rd [], .rd [], .rd []] none (by kernel_rfl) (by rfl) rfl (by simp [below]) rfl ?_
      obtain ⟨x5, hx5, h⟩ := bnd h
      obtain ⟨i0x5, i1x5, i2x5, _⟩ := idx_ok hx5
      have ex5_0_5 : partOf T.T 5 (encs c5 a0) (v2.toNat) = some (.sc (.int .u8 x5)) := by
          have e0 := part_elem0 (e := c5) (z := 1) (T := T.T) (ty := 5) T.t5 (by decide) (by decide) hx5 0 (by decide)
          (try simp only [Nat.mul_one, Nat.add_zero] at e0)
          exact e0.trans rfl
      obtain ⟨x6, hx6, h⟩ := bnd h
      obtain ⟨i0x6, i1x6, i2x6, _⟩ := idx_ok hx6
      have ex6_0_5 : partOf T.T 5 (encs c5 a1) (v2.toNat) = some (.sc (.int .u8 x6)) := by
          have e0 := part_elem0 (e := c5) (z := 1) (T := T.T) (ty := 5) T.t5 (by decide) (by decide) hx6 0 (by decide)
          (try simp only [Nat.mul_one, Nat.add_zero] at e0)
          exact e0.trans rfl
      refine Stk.runD 9 (fun t H n => t 0 = .ssl (encs c5 a0) a0.length false ∧ t 1 = .ssl (encs c5 a1) a1.length false ∧ t 12 = .sc (.int .i64 (a0.length : Int)) ∧ t 13 = .sc (.int .i64 v2) ∧ t 24 = .sc (.bool (x5 != x6)) ∧ n0 ≤ n) (fun J hJ => ?_) ?_
      · simp [-splice, f0, f1, f5, f12, f13, i0x5, i1x5, pd5, ex5_0_5, i0x6, i1x6, ex6_0_5]
        exact hJ _ _ _ ⟨by simp [f0], by simp [f1], by simp [f12], by simp [f13], by simp [-splice, f0, f1, f5, f12, f13, i0x5, i1x5, pd5, ex5_0_5, i0x6, i1x6, ex6_0_5], ln0⟩
      clear f0 f1 f5 f12 f13 ln0
      rintro t H n ⟨f0, f1, f12, f13, f24, ln0⟩
      refine Stk.onD ?_
      refine Stk.cond (x5 != x6) (by exact f24) (fun hb7 => ?_) (fun hb7 => ?_)
      · have h := cT hb7 h
        refine Stk.sq ?_
        refine Stk.rg ?_
        refine Stk.run 1 (fun t H n => t 4 = .sc (.bool false)) (fun J hJ => ?_) ?_
        · simp [-splice, f0, f1, f12, f13, f24]
          exact hJ _ _ _ (by simp [-splice, f0, f1, f12, f13, f24])
        clear f0 f1 f12 f13 f24 ln0
        rintro t H n f4
        refine Stk.on ?_
        refine Stk.rt ?_
        have hq := Option.some.inj h; subst hq
        exact (hr _ _ _ (.sc (.bool false)) ([]) (by simp [f4]) (.inr (.inr (.free (rfl))))).1
      · have h := cF hb7 h
        refine Stk.sk ?_
        refine Stk.bn ?_
        refine Stk.rg ?_
        refine Stk.run 2 (fun t H n => t 0 = .ssl (encs c5 a0) a0.length false ∧ t 1 = .ssl (encs c5 a1) a1.length false ∧ t 12 = .sc (.int .i64 (a0.length : Int)) ∧ t 13 = .sc (.int .i64 (IntKind.i64.wrap (v2 + 1)))) (fun J hJ => ?_) ?_
        · simp [-splice, f0, f1, f12, f13, f24]
          exact hJ _ _ _ ⟨by simp [f0], by simp [f1], by simp [f12], by simp [-splice, f0, f1, f12, f13, f24]⟩
        clear f0 f1 f12 f13 f24 ln0
        rintro t H n ⟨f0, f1, f12, f13⟩
        refine Stk.on ?_
        exact Stk.ln μ (Nat.lt_succ_self _) (hJ1 _ _ _ _ ⟨(IntKind.i64.wrap (v2 + 1)), h, f0, f1, f12, f13⟩)
    · have h := cF hb4 h
      refine Stk.ex rfl ?_
      refine Stk.sq ?_
      refine Stk.rg ?_
      refine Stk.run 1 (fun t H n => t 4 = .sc (.bool true)) (fun J hJ => ?_) ?_
      · simp [-splice, f0, f1, f12, f13, f14]
        exact hJ _ _ _ (by simp [-splice, f0, f1, f12, f13, f14])
      clear f0 f1 f12 f13 f14
      rintro t H n f4
      refine Stk.on ?_
      refine Stk.rt ?_
      have hq := Option.some.inj h; subst hq
      exact (hr _ _ _ (.sc (.bool true)) ([]) (by simp [f4]) (.inr (.inr (.free (rfl))))).1
theorem ok_graph_Same_1 (F : Nat) (a0 : api_Node) (a1 : api_Node) (r : Bool) (h : graph_Same_1 F a0 a1 = some r) : RunF Try.prog T.T 90 [.agg (c37 a0), .agg (c37 a1)] (.sc (.bool r)) := by
  rw [graph_Same_1] at h
  refine RunF.z Try.func90 rfl rfl rfl rfl rfl (fun C hr => ?_)
  refine Stk.gen (fun t H n => t 0 = .agg (c37 a0) ∧ t 1 = .agg (c37 a1)) ⟨by simp, by simp⟩ ?_
  rintro t H n ⟨f0, f1⟩
  refine Stk.sq ?_
  refine Stk.rg ?_
  refine Stk.om (mop_box T.t37 (cs := c37 a0) (by show partOk (t 0) = true; rw [f0]; rfl) (by show cellsOf (t 0) = _; rw [f0]; rfl)) (by simp [f0, f1]) rfl (fun t' ht' => ?_)
  refine Stk.gen (fun t H n => ∃ b1, t 1 = .agg (c37 a1) ∧ t 2 = .own b1 0 ∧ H b1 = some (.cells (c37 a0) 37) ∧ b1 < n) ⟨n, by simp [ht', f1], by simp [ht'], upd_same _ _ _, Nat.lt_succ_self _⟩ ?_
  clear f0 f1 ht' t'
  rintro t H n ⟨b1, f1, f2, b_b1, l_b1⟩
  refine Stk.om (mop_box T.t37 (cs := c37 a1) (by show partOk (t 1) = true; rw [f1]; rfl) (by show cellsOf (t 1) = _; rw [f1]; rfl)) (by simp [f1, f2]) rfl (fun t' ht' => ?_)
  refine Stk.gen (fun t H n => ∃ b2, t 2 = .own b1 0 ∧ t 3 = .own b2 0 ∧ H b1 = some (.cells (c37 a0) 37) ∧ b1 < n ∧ H b2 = some (.cells (c37 a1) 37) ∧ b2 < n ∧ b1 ≠ b2) ⟨n, by simp [ht', f2], by simp [ht'], (upd_ne _ _ (Nat.ne_of_lt l_b1)).trans b_b1, Nat.lt_succ_of_lt l_b1, upd_same _ _ _, Nat.lt_succ_self _, Nat.ne_of_lt l_b1⟩ ?_
  clear f1 f2 b_b1 l_b1 ht' t'
  rintro t H n ⟨b2, f2, f3, b_b1, l_b1, b_b2, l_b2, d_b1_b2⟩
  refine Stk.run 1 (fun t H n => t 2 = .own b1 0 ∧ t 3 = .own b2 0 ∧ H b1 = some (.cells (c37 a0) 37) ∧ b1 < n ∧ H b2 = some (.cells (c37 a1) 37) ∧ b2 < n ∧ b1 ≠ b2) (fun J hJ => ?_) ?_
  · simp [-splice, f2, f3, b_b1, b_b2]
    exact hJ _ _ _ ⟨by simp [f2], by simp [f3], b_b1, l_b1, b_b2, l_b2, d_b1_b2⟩
  clear f2 f3 b_b1 l_b1 b_b2 l_b2 d_b1_b2
  rintro t H n ⟨f2, f3, b_b1, l_b1, b_b2, l_b2, d_b1_b2⟩
  refine Stk.on ?_
  refine Stk.sq ?_
  refine Stk.rg ?_
  refine Stk.run 6 (fun t H n => t 2 = .own b1 0 ∧ t 3 = .own b2 0 ∧ t 10 = .sc (.bool ((a0.Head.Kind == a1.Head.Kind) && ((a0.Head.Tag == a1.Head.Tag) && ((a0.Head.Count == a1.Head.Count))))) ∧ H b1 = some (.cells (c37 a0) 37) ∧ b1 < n ∧ H b2 = some (.cells (c37 a1) 37) ∧ b2 < n ∧ b1 ≠ b2) (fun J hJ => ?_) ?_
  · simp [-splice, f2, f3, b_b1, b_b2, ld_37_0_34, eqM34]
    exact hJ _ _ _ ⟨by simp [f2], by simp [f3], by simp [-splice, f2, f3, b_b1, b_b2, ld_37_0_34, eqM34], b_b1, l_b1, b_b2, l_b2, d_b1_b2⟩
  clear f2 f3 b_b1 l_b1 b_b2 l_b2 d_b1_b2
  rintro t H n ⟨f2, f3, f10, b_b1, l_b1, b_b2, l_b2, d_b1_b2⟩
  obtain ⟨K1, hK1, h⟩ := jnd h
  refine Stk.jo 6 (fun t H n => ∃ v3 : Bool, K1 v3 = some r ∧ t 2 = .own b1 0 ∧ t 3 = .own b2 0 ∧ t 16 = .sc (.bool v3) ∧ H b1 = some (.cells (c37 a0) 37) ∧ b1 < n ∧ H b2 = some (.cells (c37 a1) 37) ∧ b2 < n ∧ b1 ≠ b2) (fun J1 hJ1 => ?_) ?_
  · rcases Bool.eq_false_or_eq_true ((a0.Head.Kind == a1.Head.Kind) && ((a0.Head.Tag == a1.Head.Tag) && ((a0.Head.Count == a1.Head.Count)))) with hb1 | hb1
    · rw [hb1] at f10
      replace h := cT hb1 h
      refine Stk.run 4 (fun t H n => t 2 = .own b1 0 ∧ t 3 = .own b2 0 ∧ t 10 = .sc (.bool true) ∧ t 12 = .ssl (encs c5 a0.Bytes) a0.Bytes.length false ∧ t 14 = .ssl (encs c5 a1.Bytes) a1.Bytes.length false ∧ H b1 = some (.cells (c37 a0) 37) ∧ b1 < n ∧ H b2 = some (.cells (c37 a1) 37) ∧ b2 < n ∧ b1 ≠ b2) (fun J hJ => ?_) ?_
      · simp [-splice, f2, f3, f10, b_b1, b_b2, ld_37_3_35]
        exact hJ _ _ _ ⟨by simp [f2], by simp [f3], by simp [f10], by simp [-splice, f2, f3, f10, b_b1, b_b2, ld_37_3_35], by simp [-splice, f2, f3, f10, b_b1, b_b2, ld_37_3_35], b_b1, l_b1, b_b2, l_b2, d_b1_b2⟩
      clear f2 f3 f10 b_b1 l_b1 b_b2 l_b2 d_b1_b2
      rintro t H n ⟨f2, f3, f10, f12, f14, b_b1, l_b1, b_b2, l_b2, d_b1_b2⟩
      obtain ⟨x4, hx4, h⟩ := bnd h
      refine Stk.cv (g := 91) (args := [.ssl (encs c5 a0.Bytes) a0.Bytes.length false, .ssl (encs c5 a1.Bytes) a1.Bytes.length false]) (args' := [.ssl (encs c5 a0.Bytes) a0.Bytes.length false, .ssl (encs c5 a1.Bytes) a1.Bytes.length false]) (v := .sc (.bool x4)) [] (ok_slices_Equal_byte_byte F _ _ _ hx4) (by simp [f2, f3, f10, f12, f14]) rfl rfl (by simp [f2, f3, f10, f12, f14]) (.cons (.free (freeL_encs fr5 _)) (.cons (.free (freeL_encs fr5 _)) (.nil))) (.inl ⟨rfl, rfl⟩) (fun t' ht' => ?_)
      refine Stk.gen (fun t H n => t 2 = .own b1 0 ∧ t 3 = .own b2 0 ∧ t 10 = .sc (.bool true) ∧ t 15 = .sc (.bool x4) ∧ H b1 = some (.cells (c37 a0) 37) ∧ b1 < n ∧ H b2 = some (.cells (c37 a1) 37) ∧ b2 < n ∧ b1 ≠ b2) ⟨by simp [ht', f2], by simp [ht', f3], by simp [ht', f10], by simp [ht'], b_b1, l_b1, b_b2, l_b2, d_b1_b2⟩ ?_
      clear f2 f3 f10 f12 f14 b_b1 l_b1 b_b2 l_b2 d_b1_b2 ht' t'
      rintro t H n ⟨f2, f3, f10, f15, b_b1, l_b1, b_b2, l_b2, d_b1_b2⟩
      refine Stk.run 1 (fun t H n => t 2 = .own b1 0 ∧ t 3 = .own b2 0 ∧ t 16 = .sc (.bool x4) ∧ H b1 = some (.cells (c37 a0) 37) ∧ b1 < n ∧ H b2 = some (.cells (c37 a1) 37) ∧ b2 < n ∧ b1 ≠ b2) (fun J hJ => ?_) ?_
      · simp [-splice, f2, f3, f10, f15, b_b1, b_b2]
        exact hJ _ _ _ ⟨by simp [f2], by simp [f3], by simp [-splice, f2, f3, f10, f15, b_b1, b_b2], b_b1, l_b1, b_b2, l_b2, d_b1_b2⟩
      clear f2 f3 f10 f15 b_b1 l_b1 b_b2 l_b2 d_b1_b2
      rintro t H n ⟨f2, f3, f16, b_b1, l_b1, b_b2, l_b2, d_b1_b2⟩
      refine Stk.on ?_
      exact Stk.ln 0 (by decide) (hJ1 _ _ _ ⟨x4, h, f2, f3, f16, b_b1, l_b1, b_b2, l_b2, d_b1_b2⟩)
    · rw [hb1] at f10
      replace h := cF hb1 h
      refine Stk.run 6 (fun t H n => t 2 = .own b1 0 ∧ t 3 = .own b2 0 ∧ t 16 = .sc (.bool false) ∧ H b1 = some (.cells (c37 a0) 37) ∧ b1 < n ∧ H b2 = some (.cells (c37 a1) 37) ∧ b2 < n ∧ b1 ≠ b2) (fun J hJ => ?_) ?_
      · simp [-splice, f2, f3, f10, b_b1, b_b2]
        exact hJ _ _ _ ⟨by simp [f2], by simp [f3], by simp [-splice, f2, f3, f10, b_b1, b_b2], b_b1, l_b1, b_b2, l_b2, d_b1_b2⟩
      clear f2 f3 f10 b_b1 l_b1 b_b2 l_b2 d_b1_b2
      rintro t H n ⟨f2, f3, f16, b_b1, l_b1, b_b2, l_b2, d_b1_b2⟩
      refine Stk.on ?_
      exact Stk.ln 0 (by decide) (hJ1 _ _ _ ⟨false, h, f2, f3, f16, b_b1, l_b1, b_b2, l_b2, d_b1_b2⟩)
  clear h f2 f3 f10 b_b1 l_b1 b_b2 l_b2 d_b1_b2
  rintro t H n ⟨v3, h, f2, f3, f16, b_b1, l_b1, b_b2, l_b2, d_b1_b2⟩
  subst hK1
  refine Stk.run 1 (fun t H n => t 2 = .own b1 0 ∧ t 3 = .own b2 0 ∧ t 17 = .sc (.bool v3) ∧ H b1 = some (.cells (c37 a0) 37) ∧ b1 < n ∧ H b2 = some (.cells (c37 a1) 37) ∧ b2 < n ∧ b1 ≠ b2) (fun J hJ => ?_) ?_
  · simp [-splice, f2, f3, f16, b_b1, b_b2]
    exact hJ _ _ _ ⟨by simp [f2], by simp [f3], by simp [-splice, f2, f3, f16, b_b1, b_b2], b_b1, l_b1, b_b2, l_b2, d_b1_b2⟩
  clear f2 f3 f16 b_b1 l_b1 b_b2 l_b2 d_b1_b2
  rintro t H n ⟨f2, f3, f17, b_b1, l_b1, b_b2, l_b2, d_b1_b2⟩
  obtain ⟨K2, hK2, h⟩ := jnd h
  refine Stk.jo 6 (fun t H n => ∃ v5 : Bool, K2 v5 = some r ∧ t 23 = .sc (.bool v5)) (fun J2 hJ2 => ?_) ?_
  · rcases Bool.eq_false_or_eq_true v3 with hb2 | hb2
    · rw [hb2] at f17
      replace h := cT hb2 h
      refine Stk.run 4 (fun t H n => t 17 = .sc (.bool true) ∧ t 19 = .ssl (encs c31 a0.Kids) a0.Kids.length false ∧ t 21 = .ssl (encs c31 a1.Kids) a1.Kids.length false) (fun J hJ => ?_) ?_
      · simp [-splice, f2, f3, f17, b_b1, b_b2, ld_37_4_23]
        exact hJ _ _ _ ⟨by simp [f17], by simp [-splice, f2, f3, f17, b_b1, b_b2, ld_37_4_23], by simp [-splice, f2, f3, f17, b_b1, b_b2, ld_37_4_23]⟩
      clear f2 f3 f17 b_b1 l_b1 b_b2 l_b2 d_b1_b2
      rintro t H n ⟨f17, f19, f21⟩
      obtain ⟨x6, hx6, h⟩ := bnd h
      refine Stk.cv (g := 88) (args := [.ssl (encs c31 a0.Kids) a0.Kids.length false, .ssl (encs c31 a1.Kids) a1.Kids.length false]) (args' := [.ssl (encs c31 a0.Kids) a0.Kids.length false, .ssl (encs c31 a1.Kids) a1.Kids.length false]) (v := .sc (.bool x6)) [] (ok_slices_Equal_api_Edge_api_Edge F _ _ _ hx6) (by simp [f17, f19, f21]) rfl rfl (by simp [f17, f19, f21]) (.cons (.free (freeL_encs fr31 _)) (.cons (.free (freeL_encs fr31 _)) (.nil))) (.inl ⟨rfl, rfl⟩) (fun t' ht' => ?_)
      refine Stk.gen (fun t H n => t 17 = .sc (.bool true) ∧ t 22 = .sc (.bool x6)) ⟨by simp [ht', f17], by simp [ht']⟩ ?_
      clear f17 f19 f21 ht' t'
      rintro t H n ⟨f17, f22⟩
      refine Stk.run 1 (fun t H n => t 23 = .sc (.bool x6)) (fun J hJ => ?_) ?_
      · simp [-splice, f17, f22]
        exact hJ _ _ _ (by simp [-splice, f17, f22])
      clear f17 f22
      rintro t H n f23
      refine Stk.on ?_
      exact Stk.ln 0 (by decide) (hJ2 _ _ _ ⟨x6, h, f23⟩)
    · rw [hb2] at f17
      replace h := cF hb2 h
      refine Stk.run 6 (fun t H n => t 23 = .sc (.bool false)) (fun J hJ => ?_) ?_
      · simp [-splice, f2, f3, f17, b_b1, b_b2]
        exact hJ _ _ _ (by simp [-splice, f2, f3, f17, b_b1, b_b2])
      clear f2 f3 f17 b_b1 l_b1 b_b2 l_b2 d_b1_b2
      rintro t H n f23
      refine Stk.on ?_
      exact Stk.ln 0 (by decide) (hJ2 _ _ _ ⟨false, h, f23⟩)
  clear h f2 f3 f17 b_b1 l_b1 b_b2 l_b2 d_b1_b2
  rintro t H n ⟨v5, h, f23⟩
  subst hK2
  refine Stk.run 1 (fun t H n => t 4 = .sc (.bool v5)) (fun J hJ => ?_) ?_
  · simp [-splice, f23]
    exact hJ _ _ _ (by simp [-splice, f23])
  clear f23
  rintro t H n f4
  refine Stk.on ?_
  refine Stk.rt ?_
  have hq := Option.some.inj h; subst hq
  exact (hr _ _ _ (.sc (.bool v5)) ([]) (by simp [f4]) (.inr (.inr (.free (rfl))))).1
theorem ok_graph_Same (F : Nat) (a0 : (List api_Node)) (a1 : (List api_Node)) (a2 : (List api_Edge)) (a3 : (List api_Edge)) (r : Bool) (h : graph_Same F a0 a1 a2 a3 = some r) : RunF Try.prog T.T 31 [.ssl (encs c37 a0) a0.length false, .ssl (encs c37 a1) a1.length false, .ssl (encs c31 a2) a2.length false, .ssl (encs c31 a3) a3.length false] (.sc (.bool r)) := by
  rw [graph_Same] at h
  refine RunF.z Try.func31 rfl rfl rfl rfl rfl (fun C hr => ?_)
  refine Stk.gen (fun t H n => t 0 = .ssl (encs c37 a0) a0.length false ∧ t 1 = .ssl (encs c37 a1) a1.length false ∧ t 2 = .ssl (encs c31 a2) a2.length false ∧ t 3 = .ssl (encs c31 a3) a3.length false) ⟨by simp, by simp, by simp, by simp⟩ ?_
  rintro t H n ⟨f0, f1, f2, f3⟩
  refine Stk.sq ?_
  refine Stk.rg ?_
  refine Stk.run 1 (fun t H n => t 0 = .ssl (encs c37 a0) a0.length false ∧ t 1 = .ssl (encs c37 a1) a1.length false ∧ t 2 = .ssl (encs c31 a2) a2.length false ∧ t 3 = .ssl (encs c31 a3) a3.length false) (fun J hJ => ?_) ?_
  · simp [-splice, f0, f1, f2, f3]
    exact hJ _ _ _ ⟨by simp [f0], by simp [f1], by simp [f2], by simp [f3]⟩
  clear f0 f1 f2 f3
  rintro t H n ⟨f0, f1, f2, f3⟩
  refine Stk.on ?_
  refine Stk.sq ?_
  refine Stk.rg ?_
  refine Stk.run 2 (fun t H n => t 0 = .ssl (encs c37 a0) a0.length false ∧ t 1 = .ssl (encs c37 a1) a1.length false ∧ t 9 = .ssl (encs c31 a2) a2.length false ∧ t 10 = .ssl (encs c31 a3) a3.length false) (fun J hJ => ?_) ?_
  · simp [-splice, f0, f1, f2, f3]
    exact hJ _ _ _ ⟨by simp [f0], by simp [f1], by simp [-splice, f0, f1, f2, f3], by simp [-splice, f0, f1, f2, f3]⟩
  clear f0 f1 f2 f3
  rintro t H n ⟨f0, f1, f9, f10⟩
  obtain ⟨x1, hx1, h⟩ := bnd h
  refine Stk.cv (g := 88) (args := [.ssl (encs c31 a2) a2.length false, .ssl (encs c31 a3) a3.length false]) (args' := [.ssl (encs c31 a2) a2.length false, .ssl (encs c31 a3) a3.length false]) (v := .sc (.bool x1)) [] (ok_slices_Equal_api_Edge_api_Edge F _ _ _ hx1) (by simp [f0, f1, f9, f10]) rfl rfl (by simp [f0, f1, f9, f10]) (.cons (.free (freeL_encs fr31 _)) (.cons (.free (freeL_encs fr31 _)) (.nil))) (.inl ⟨rfl, rfl⟩) (fun t' ht' => ?_)
  refine Stk.gen (fun t H n => t 0 = .ssl (encs c37 a0) a0.length false ∧ t 1 = .ssl (encs c37 a1) a1.length false ∧ t 11 = .sc (.bool x1)) ⟨by simp [ht', f0], by simp [ht', f1], by simp [ht']⟩ ?_
  clear f0 f1 f9 f10 ht' t'
  rintro t H n ⟨f0, f1, f11⟩
  refine Stk.run 1 (fun t H n => t 0 = .ssl (encs c37 a0) a0.length false ∧ t 1 = .ssl (encs c37 a1) a1.length false ∧ t 12 = .sc (.bool x1)) (fun J hJ => ?_) ?_
  · simp [-splice, f0, f1, f11]
    exact hJ _ _ _ ⟨by simp [f0], by simp [f1], by simp [-splice, f0, f1, f11]⟩
  clear f0 f1 f11
  rintro t H n ⟨f0, f1, f12⟩
  obtain ⟨K1, hK1, h⟩ := jnd h
  refine Stk.jo 4 (fun t H n => ∃ v2 : Bool, K1 v2 = some r ∧ t 16 = .sc (.bool v2)) (fun J1 hJ1 => ?_) ?_
  · rcases Bool.eq_false_or_eq_true x1 with hb1 | hb1
    · rw [hb1] at f12
      replace h := cT hb1 h
      refine Stk.run 2 (fun t H n => t 12 = .sc (.bool true) ∧ t 13 = .ssl (encs c37 a0) a0.length false ∧ t 14 = .ssl (encs c37 a1) a1.length false) (fun J hJ => ?_) ?_
      · simp [-splice, f0, f1, f12]
        exact hJ _ _ _ ⟨by simp [f12], by simp [-splice, f0, f1, f12], by simp [-splice, f0, f1, f12]⟩
      clear f0 f1 f12
      rintro t H n ⟨f12, f13, f14⟩
      obtain ⟨x3, hx3, h⟩ := bnd h
      refine Stk.cv (g := 89) (args := [.ssl (encs c37 a0) a0.length false, .ssl (encs c37 a1) a1.length false, .fn (.func 90) [] []]) (args' := [.ssl (encs c37 a0) a0.length false, .ssl (encs c37 a1) a1.length false, .fn (.func 90) [] []]) (v := .sc (.bool x3)) [] (ok_slices_EqualFunc_api_Node_api_Node_api_Node_api_Node F _ _ _ 90 [] [] ⟨by simp [freeL, free], by simp [freeL, free]⟩ (fun y0 y1 r h => ok_graph_Same_1 F y0 y1 r h) _ hx3) (by simp [f12, f13, f14]) rfl rfl (by simp [f12, f13, f14]) (.cons (.free (freeL_encs fr37 _)) (.cons (.free (freeL_encs fr37 _)) (.cons (.fn .nil (.nil)) (.nil)))) (.inl ⟨rfl, rfl⟩) (fun t' ht' => ?_)
      refine Stk.gen (fun t H n => t 12 = .sc (.bool true) ∧ t 15 = .sc (.bool x3)) ⟨by simp [ht', f12], by simp [ht']⟩ ?_
      clear f12 f13 f14 ht' t'
      rintro t H n ⟨f12, f15⟩
      refine Stk.run 1 (fun t H n => t 16 = .sc (.bool x3)) (fun J hJ => ?_) ?_
      · simp [-splice, f12, f15]
        exact hJ _ _ _ (by simp [-splice, f12, f15])
      clear f12 f15
      rintro t H n f16
      refine Stk.on ?_
      exact Stk.ln 0 (by decide) (hJ1 _ _ _ ⟨x3, h, f16⟩)
    · rw [hb1] at f12
      replace h := cF hb1 h
      refine Stk.run 4 (fun t H n => t 16 = .sc (.bool false)) (fun J hJ => ?_) ?_
      · simp [-splice, f0, f1, f12]
        exact hJ _ _ _ (by simp [-splice, f0, f1, f12])
      clear f0 f1 f12
      rintro t H n f16
      refine Stk.on ?_
      exact Stk.ln 0 (by decide) (hJ1 _ _ _ ⟨false, h, f16⟩)
  clear h f0 f1 f12
  rintro t H n ⟨v2, h, f16⟩
  subst hK1
  refine Stk.run 1 (fun t H n => t 8 = .sc (.bool v2)) (fun J hJ => ?_) ?_
  · simp [-splice, f16]
    exact hJ _ _ _ (by simp [-splice, f16])
  clear f16
  rintro t H n f8
  refine Stk.on ?_
  refine Stk.rt ?_
  have hq := Option.some.inj h; subst hq
  exact (hr _ _ _ (.sc (.bool v2)) ([]) (by simp [f8]) (.inr (.inr (.free (rfl))))).1
theorem ok_R17_edges (F : Nat) (a0 : (List api_Edge)) (a1 : (List api_Edge)) (r : Bool) (h : R17_edges F a0 a1 = some r) : RunF Try.prog T.T 80 [.ssl (encs c31 a0) a0.length false, .ssl (encs c31 a1) a1.length false] (.sc (.bool r)) := by
  rw [R17_edges] at h
  refine RunF.z Try.func80 rfl rfl rfl rfl rfl (fun C hr => ?_)
  refine Stk.gen (fun t H n => t 0 = .ssl (encs c31 a0) a0.length false ∧ t 1 = .ssl (encs c31 a1) a1.length false) ⟨by simp, by simp⟩ ?_
  rintro t H n ⟨f0, f1⟩
  refine Stk.sq ?_
  refine Stk.rg ?_
  refine Stk.run 1 (fun t H n => t 0 = .ssl (encs c31 a0) a0.length false ∧ t 1 = .ssl (encs c31 a1) a1.length false) (fun J hJ => ?_) ?_
  · simp [-splice, f0, f1]
    exact hJ _ _ _ ⟨by simp [f0], by simp [f1]⟩
  clear f0 f1
  rintro t H n ⟨f0, f1⟩
  refine Stk.on ?_
  refine Stk.sq ?_
  refine Stk.sq ?_
  refine Stk.rg ?_
  refine Stk.run 5 (fun t H n => t 0 = .ssl (encs c31 a0) a0.length false ∧ t 1 = .ssl (encs c31 a1) a1.length false ∧ t 10 = .sc (.bool ((a0.length : Int) != (a1.length : Int)))) (fun J hJ => ?_) ?_
  · simp [-splice, f0, f1]
    exact hJ _ _ _ ⟨by simp [f0], by simp [f1], by simp [-splice, f0, f1]⟩
  clear f0 f1
  rintro t H n ⟨f0, f1, f10⟩
  refine Stk.on ?_
  refine Stk.cond ((a0.length : Int) != (a1.length : Int)) (by exact f10) (fun hb1 => ?_) (fun hb1 => ?_)
  · have h := cT hb1 h
    refine Stk.sq ?_
    refine Stk.rg ?_
    refine Stk.run 1 (fun t H n => t 4 = .sc (.bool false)) (fun J hJ => ?_) ?_
    · simp [-splice, f0, f1, f10]
      exact hJ _ _ _ (by simp [-splice, f0, f1, f10])
    clear f0 f1 f10
    rintro t H n f4
    refine Stk.on ?_
    refine Stk.rt ?_
    have hq := Option.some.inj h; subst hq
    exact (hr _ _ _ (.sc (.bool false)) ([]) (by simp [f4]) (.inr (.inr (.free (rfl))))).1
  · have h := cF hb1 h
    refine Stk.sk ?_
    refine Stk.sq ?_
    refine Stk.sq ?_
    refine Stk.rg ?_
    refine Stk.run 1 (fun t H n => t 0 = .ssl (encs c31 a0) a0.length false ∧ t 1 = .ssl (encs c31 a1) a1.length false ∧ t 5 = .sc (.int .i64 0)) (fun J hJ => ?_) ?_
    · simp [-splice, f0, f1, f10]
      exact hJ _ _ _ ⟨by simp [f0], by simp [f1], by simp [-splice, f0, f1, f10]⟩
    clear f0 f1 f10
    rintro t H n ⟨f0, f1, f5⟩
    refine Stk.on ?_
    refine Stk.bk ?_
    refine Stk.lo (fun μ t H n => ∃ v2 : Int, R17_edges_L0 F a0 a1 μ v2 = some r ∧ t 0 = .ssl (encs c31 a0) a0.length false ∧ t 1 = .ssl (encs c31 a1) a1.length false ∧ t 5 = .sc (.int .i64 v2)) F ⟨0, h, f0, f1, f5⟩ ?_
    clear h f0 f1 f5
    rintro J1 hJ1 μ t H n ⟨v2, h, f0, f1, f5⟩
    cases μ with
    | zero => exact absurd h (by simp [R17_edges_L0])
    | succ μ =>
    rw [R17_edges_L0] at h
    refine Stk.sq ?_
    refine Stk.sq ?_
    refine Stk.rg ?_
    refine Stk.run 4 (fun t H n => t 0 = .ssl (encs c31 a0) a0.length false ∧ t 1 = .ssl (encs c31 a1) a1.length false ∧ t 5 = .sc (.int .i64 v2) ∧ t 14 = .sc (.bool (decide (v2 < (a0.length : Int))))) (fun J hJ => ?_) ?_
    · simp [-splice, f0, f1, f5]
      exact hJ _ _ _ ⟨by simp [f0], by simp [f1], by simp [f5], by simp [-splice, f0, f1, f5]⟩
    clear f0 f1 f5
    rintro t H n ⟨f0, f1, f5, f14⟩
    refine Stk.on ?_
    refine Stk.cond (decide (v2 < (a0.length : Int))) (by exact f14) (fun hb4 => ?_) (fun hb4 => ?_)
    · have h := cT hb4 h
      refine Stk.sk ?_
      refine Stk.sq ?_
      refine Stk.bk ?_
      refine Stk.sq ?_
      obtain ⟨n0, hn0⟩ : ∃ m, m = n := ⟨n, rfl⟩
      have ln0 : n0 ≤ n := Nat.le_of_eq hn0
      refine Stk.rgD [.rd [], .rd [], .rd [], .rd [], .rd [], .rd [], .rd [], .rd [], .rd []] none (by kernel_rfl) (by rfl) rfl (by simp [below]) rfl ?_
      obtain ⟨x5, hx5, h⟩ := bnd h
      obtain ⟨i0x5, i1x5, i2x5, _⟩ := idx_ok hx5
      have ex5_0_31 : partOf T.T 31 (encs c31 a0) (v2.toNat * 3) = some (.agg (c31 x5)) := by
          have e0 := part_elem0 (e := c31) (z := 3) (T := T.T) (ty := 31) T.t31 (by decide) (by decide) hx5 0 (by decide)
          (try simp only [Nat.mul_one, Nat.add_zero] at e0)
          exact e0.trans (ld_31_0_31 _)
      obtain ⟨x6, hx6, h⟩ := bnd h
      obtain ⟨i0x6, i1x6, i2x6, _⟩ := idx_ok hx6
      have ex6_0_31 : partOf T.T 31 (encs c31 a1) (v2.toNat * 3) = some (.agg (c31 x6)) := by
          have e0 := part_elem0 (e := c31) (z := 3) (T := T.T) (ty := 31) T.t31 (by decide) (by decide) hx6 0 (by decide)
          (try simp only [Nat.mul_one, Nat.add_zero] at e0)
          exact e0.trans (ld_31_0_31 _)
      refine Stk.runD 9 (fun t H n => t 0 = .ssl (encs c31 a0) a0.length false ∧ t 1 = .ssl (encs c31 a1) a1.length false ∧ t 5 = .sc (.int .i64 v2) ∧ t 25 = .sc (.bool (!((x5.Is == x6.Is) && ((x5.Node == x6.Node) && ((x5.Num == x6.Num)))))) ∧ n0 ≤ n) (fun J hJ => ?_) ?_
      · simp [-splice, f0, f1, f5, f14, i0x5, i1x5, pd31, ex5_0_31, i0x6, i1x6, ex6_0_31, eqM31]
        exact hJ _ _ _ ⟨by simp [f0], by simp [f1], by simp [f5], by simp [-splice, f0, f1, f5, f14, i0x5, i1x5, pd31, ex5_0_31, i0x6, i1x6, ex6_0_31, eqM31], ln0⟩
      clear f0 f1 f5 f14 ln0
      rintro t H n ⟨f0, f1, f5, f25, ln0⟩
      refine Stk.onD ?_
      refine Stk.cond (!((x5.Is == x6.Is) && ((x5.Node == x6.Node) && ((x5.Num == x6.Num))))) (by exact f25) (fun hb7 => ?_) (fun hb7 => ?_)
      · have h := cT hb7 h
        refine Stk.sq ?_
        refine Stk.rg ?_
        refine Stk.run 1 (fun t H n => t 4 = .sc (.bool false)) (fun J hJ => ?_) ?_
        · simp [-splice, f0, f1, f5, f25]
          exact hJ _ _ _ (by simp [-splice, f0, f1, f5, f25])
        clear f0 f1 f5 f25 ln0
        rintro t H n f4
        refine Stk.on ?_
        refine Stk.rt ?_
        have hq := Option.some.inj h; subst hq
        exact (hr _ _ _ (.sc (.bool false)) ([]) (by simp [f4]) (.inr (.inr (.free (rfl))))).1
      · have h := cF hb7 h
        refine Stk.sk ?_
        refine Stk.bn ?_
        refine Stk.rg ?_
        refine Stk.run 3 (fun t H n => t 0 = .ssl (encs c31 a0) a0.length false ∧ t 1 = .ssl (encs c31 a1) a1.length false ∧ t 5 = .sc (.int .i64 (IntKind.i64.wrap (v2 + 1)))) (fun J hJ => ?_) ?_
        · simp [-splice, f0, f1, f5, f25]
          exact hJ _ _ _ ⟨by simp [f0], by simp [f1], by simp [-splice, f0, f1, f5, f25]⟩
        clear f0 f1 f5 f25 ln0
        rintro t H n ⟨f0, f1, f5⟩
        refine Stk.on ?_
        exact Stk.ln μ (Nat.lt_succ_self _) (hJ1 _ _ _ _ ⟨(IntKind.i64.wrap (v2 + 1)), h, f0, f1, f5⟩)
    · have h := cF hb4 h
      refine Stk.ex rfl ?_
      refine Stk.sq ?_
      refine Stk.rg ?_
      refine Stk.run 1 (fun t H n => t 4 = .sc (.bool true)) (fun J hJ => ?_) ?_
      · simp [-splice, f0, f1, f5, f14]
        exact hJ _ _ _ (by simp [-splice, f0, f1, f5, f14])
      clear f0 f1 f5 f14
      rintro t H n f4
      refine Stk.on ?_
      refine Stk.rt ?_
      have hq := Option.some.inj h; subst hq
      exact (hr _ _ _ (.sc (.bool true)) ([]) (by simp [f4]) (.inr (.inr (.free (rfl))))).1
theorem ok_R17_Same (F : Nat) (a0 : (List api_Node)) (a1 : (List api_Node)) (a2 : (List api_Edge)) (a3 : (List api_Edge)) (r : Bool) (h : R17_Same F a0 a1 a2 a3 = some r) : RunF Try.prog T.T 17 [.ssl (encs c37 a0) a0.length false, .ssl (encs c37 a1) a1.length false, .ssl (encs c31 a2) a2.length false, .ssl (encs c31 a3) a3.length false] (.sc (.bool r)) := by
  rw [R17_Same] at h
  refine RunF.z Try.func17 rfl rfl rfl rfl rfl (fun C hr => ?_)
  refine Stk.gen (fun t H n => t 0 = .ssl (encs c37 a0) a0.length false ∧ t 1 = .ssl (encs c37 a1) a1.length false ∧ t 2 = .ssl (encs c31 a2) a2.length false ∧ t 3 = .ssl (encs c31 a3) a3.length false) ⟨by simp, by simp, by simp, by simp⟩ ?_
  rintro t H n ⟨f0, f1, f2, f3⟩
  refine Stk.sq ?_
  refine Stk.rg ?_
  refine Stk.run 1 (fun t H n => t 0 = .ssl (encs c37 a0) a0.length false ∧ t 1 = .ssl (encs c37 a1) a1.length false ∧ t 2 = .ssl (encs c31 a2) a2.length false ∧ t 3 = .ssl (encs c31 a3) a3.length false) (fun J hJ => ?_) ?_
  · simp [-splice, f0, f1, f2, f3]
    exact hJ _ _ _ ⟨by simp [f0], by simp [f1], by simp [f2], by simp [f3]⟩
  clear f0 f1 f2 f3
  rintro t H n ⟨f0, f1, f2, f3⟩
  refine Stk.on ?_
  refine Stk.sq ?_
  refine Stk.sq ?_
  refine Stk.rg ?_
  refine Stk.run 6 (fun t H n => t 0 = .ssl (encs c37 a0) a0.length false ∧ t 1 = .ssl (encs c37 a1) a1.length false ∧ t 2 = .ssl (encs c31 a2) a2.length false ∧ t 3 = .ssl (encs c31 a3) a3.length false ∧ t 15 = .sc (.bool ((a0.length : Int) != (a1.length : Int)))) (fun J hJ => ?_) ?_
  · simp [-splice, f0, f1, f2, f3]
    exact hJ _ _ _ ⟨by simp [f0], by simp [f1], by simp [f2], by simp [f3], by simp [-splice, f0, f1, f2, f3]⟩
  clear f0 f1 f2 f3
  rintro t H n ⟨f0, f1, f2, f3, f15⟩
  obtain ⟨K1, hK1, h⟩ := jnd h
  refine Stk.jo 5 (fun t H n => ∃ v1 : Bool, K1 v1 = some r ∧ t 0 = .ssl (encs c37 a0) a0.length false ∧ t 1 = .ssl (encs c37 a1) a1.length false ∧ t 20 = .sc (.bool v1)) (fun J1 hJ1 => ?_) ?_
  · rcases Bool.eq_false_or_eq_true ((a0.length : Int) != (a1.length : Int)) with hb1 | hb1
    · rw [hb1] at f15
      replace h := cT hb1 h
      refine Stk.run 5 (fun t H n => t 0 = .ssl (encs c37 a0) a0.length false ∧ t 1 = .ssl (encs c37 a1) a1.length false ∧ t 20 = .sc (.bool true)) (fun J hJ => ?_) ?_
      · simp [-splice, f0, f1, f2, f3, f15]
        exact hJ _ _ _ ⟨by simp [f0], by simp [f1], by simp [-splice, f0, f1, f2, f3, f15]⟩
      clear f0 f1 f2 f3 f15
      rintro t H n ⟨f0, f1, f20⟩
      refine Stk.on ?_
      exact Stk.ln 0 (by decide) (hJ1 _ _ _ ⟨true, h, f0, f1, f20⟩)
    · rw [hb1] at f15
      replace h := cF hb1 h
      refine Stk.run 2 (fun t H n => t 0 = .ssl (encs c37 a0) a0.length false ∧ t 1 = .ssl (encs c37 a1) a1.length false ∧ t 15 = .sc (.bool false) ∧ t 16 = .ssl (encs c31 a2) a2.length false ∧ t 17 = .ssl (encs c31 a3) a3.length false) (fun J hJ => ?_) ?_
      · simp [-splice, f0, f1, f2, f3, f15]
        exact hJ _ _ _ ⟨by simp [f0], by simp [f1], by simp [f15], by simp [-splice, f0, f1, f2, f3, f15], by simp [-splice, f0, f1, f2, f3, f15]⟩
      clear f0 f1 f2 f3 f15
      rintro t H n ⟨f0, f1, f15, f16, f17⟩
      obtain ⟨x2, hx2, h⟩ := bnd h
      refine Stk.cv (g := 80) (args := [.ssl (encs c31 a2) a2.length false, .ssl (encs c31 a3) a3.length false]) (args' := [.ssl (encs c31 a2) a2.length false, .ssl (encs c31 a3) a3.length false]) (v := .sc (.bool x2)) [] (ok_R17_edges F _ _ _ hx2) (by simp [f0, f1, f15, f16, f17]) rfl rfl (by simp [f0, f1, f15, f16, f17]) (.cons (.free (freeL_encs fr31 _)) (.cons (.free (freeL_encs fr31 _)) (.nil))) (.inl ⟨rfl, rfl⟩) (fun t' ht' => ?_)
      refine Stk.gen (fun t H n => t 0 = .ssl (encs c37 a0) a0.length false ∧ t 1 = .ssl (encs c37 a1) a1.length false ∧ t 15 = .sc (.bool false) ∧ t 18 = .sc (.bool x2)) ⟨by simp [ht', f0], by simp [ht', f1], by simp [ht', f15], by simp [ht']⟩ ?_
      clear f0 f1 f15 f16 f17 ht' t'
      rintro t H n ⟨f0, f1, f15, f18⟩
      refine Stk.run 2 (fun t H n => t 0 = .ssl (encs c37 a0) a0.length false ∧ t 1 = .ssl (encs c37 a1) a1.length false ∧ t 20 = .sc (.bool (!x2))) (fun J hJ => ?_) ?_
      · simp [-splice, f0, f1, f15, f18]
        exact hJ _ _ _ ⟨by simp [f0], by simp [f1], by simp [-splice, f0, f1, f15, f18]⟩
      clear f0 f1 f15 f18
      rintro t H n ⟨f0, f1, f20⟩
      refine Stk.on ?_
      exact Stk.ln 0 (by decide) (hJ1 _ _ _ ⟨(!x2), h, f0, f1, f20⟩)
  clear h f0 f1 f2 f3 f15
  rintro t H n ⟨v1, h, f0, f1, f20⟩
  subst hK1
  refine Stk.on ?_
  refine Stk.cond v1 (by exact f20) (fun hb3 => ?_) (fun hb3 => ?_)
  · have h := cT hb3 h
    refine Stk.sq ?_
    refine Stk.rg ?_
    refine Stk.run 1 (fun t H n => t 8 = .sc (.bool false)) (fun J hJ => ?_) ?_
    · simp [-splice, f0, f1, f20]
      exact hJ _ _ _ (by simp [-splice, f0, f1, f20])
    clear f0 f1 f20
    rintro t H n f8
    refine Stk.on ?_
    refine Stk.rt ?_
    have hq := Option.some.inj h; subst hq
    exact (hr _ _ _ (.sc (.bool false)) ([]) (by simp [f8]) (.inr (.inr (.free (rfl))))).1
  · have h := cF hb3 h
    refine Stk.sk ?_
    refine Stk.sq ?_
    refine Stk.sq ?_
    refine Stk.rg ?_
    refine Stk.run 1 (fun t H n => t 0 = .ssl (encs c37 a0) a0.length false ∧ t 1 = .ssl (encs c37 a1) a1.length false ∧ t 9 = .sc (.int .i64 0)) (fun J hJ => ?_) ?_
    · simp [-splice, f0, f1, f20]
      exact hJ _ _ _ ⟨by simp [f0], by simp [f1], by simp [-splice, f0, f1, f20]⟩
    clear f0 f1 f20
    rintro t H n ⟨f0, f1, f9⟩
    refine Stk.on ?_
    refine Stk.bk ?_
    refine Stk.lo (fun μ t H n => ∃ v4 : Int, R17_Same_L0 F a0 a1 μ v4 = some r ∧ t 0 = .ssl (encs c37 a0) a0.length false ∧ t 1 = .ssl (encs c37 a1) a1.length false ∧ t 9 = .sc (.int .i64 v4)) F ⟨0, h, f0, f1, f9⟩ ?_
    clear h f0 f1 f9
    rintro J2 hJ2 μ t H n ⟨v4, h, f0, f1, f9⟩
    cases μ with
    | zero => exact absurd h (by simp [R17_Same_L0])
    | succ μ =>
    rw [R17_Same_L0] at h
    refine Stk.sq ?_
    refine Stk.sq ?_
    refine Stk.rg ?_
    refine Stk.run 4 (fun t H n => t 0 = .ssl (encs c37 a0) a0.length false ∧ t 1 = .ssl (encs c37 a1) a1.length false ∧ t 9 = .sc (.int .i64 v4) ∧ t 24 = .sc (.bool (decide (v4 < (a0.length : Int))))) (fun J hJ => ?_) ?_
    · simp [-splice, f0, f1, f9]
      exact hJ _ _ _ ⟨by simp [f0], by simp [f1], by simp [f9], by simp [-splice, f0, f1, f9]⟩
    clear f0 f1 f9
    rintro t H n ⟨f0, f1, f9, f24⟩
    refine Stk.on ?_
    refine Stk.cond (decide (v4 < (a0.length : Int))) (by exact f24) (fun hb6 => ?_) (fun hb6 => ?_)
    · have h := cT hb6 h
      refine Stk.sk ?_
      refine Stk.sq ?_
      refine Stk.bk ?_
      refine Stk.sq ?_
      obtain ⟨n0, hn0⟩ : ∃ m, m = n := ⟨n, rfl⟩
      have ln0 : n0 ≤ n := Nat.le_of_eq hn0
      refine Stk.rgD [.rd [], .rd [], .rd [], .rd [], .rd [], .rd [], .rd [], .rd [], .rd [], .rd [], .rd [], .rd [], .rd [], .rd [], .rd [], .rd [], .rd [], .rd [], .rd [], .rd [], .rd [], .rd [], .rd [], .rd [], .rd [], .rd [], .rd [], .rd [], .rd [], .rd [], .rd [], .rd [], .rd [], .rd [], .rd [], .rd [], .rd [], .rd [], .rd [], .rd []] none (by kernel_rfl) (by rfl) rfl (by simp [below]) rfl ?_
      obtain ⟨x7, hx7, h⟩ := bnd h
      obtain ⟨i0x7, i1x7, i2x7, _⟩ := idx_ok hx7
      have ex7_0_34 : partOf T.T 34 (encs c37 a0) (v4.toNat * 5) = some (.agg (c34 x7.Head)) := by
          have e0 := part_elem0 (e := c37) (z := 5) (T := T.T) (ty := 34) T.t34 (by decide) (by decide) hx7 0 (by decide)
          (try simp only [Nat.mul_one, Nat.add_zero] at e0)
          exact e0.trans (ld_37_0_34 _)
      obtain ⟨x8, hx8, h⟩ := bnd h
      obtain ⟨i0x8, i1x8, i2x8, _⟩ := idx_ok hx8
      have ex8_0_34 : partOf T.T 34 (encs c37 a1) (v4.toNat * 5) = some (.agg (c34 x8.Head)) := by
          have e0 := part_elem0 (e := c37) (z := 5) (T := T.T) (ty := 34) T.t34 (by decide) (by decide) hx8 0 (by decide)
          (try simp only [Nat.mul_one, Nat.add_zero] at e0)
          exact e0.trans (ld_37_0_34 _)
      refine Stk.runD 12 (fun t H n => t 0 = .ssl (encs c37 a0) a0.length false ∧ t 1 = .ssl (encs c37 a1) a1.length false ∧ t 9 = .sc (.int .i64 v4) ∧ t 38 = .sc (.bool (!((x7.Head.Kind == x8.Head.Kind) && ((x7.Head.Tag == x8.Head.Tag) && ((x7.Head.Count == x8.Head.Count)))))) ∧ n0 ≤ n) (fun J hJ => ?_) ?_
      · simp [-splice, f0, f1, f9, f24, i0x7, i1x7, pd34, ex7_0_34, i0x8, i1x8, ex8_0_34, eqM34]
        exact hJ _ _ _ ⟨by simp [f0], by simp [f1], by simp [f9], by simp [-splice, f0, f1, f9, f24, i0x7, i1x7, pd34, ex7_0_34, i0x8, i1x8, ex8_0_34, eqM34], ln0⟩
      clear f0 f1 f9 f24 ln0
      rintro t H n ⟨f0, f1, f9, f38, ln0⟩
      obtain ⟨K3, hK3, h⟩ := jnd h
      refine Stk.jd 14 (fun t H n => ∃ v9 : Bool, K3 v9 = some r ∧ t 0 = .ssl (encs c37 a0) a0.length false ∧ t 1 = .ssl (encs c37 a1) a1.length false ∧ t 9 = .sc (.int .i64 v4) ∧ t 52 = .sc (.bool v9)) (fun J3 hJ3 => ?_) ?_
      · rcases Bool.eq_false_or_eq_true (!((x7.Head.Kind == x8.Head.Kind) && ((x7.Head.Tag == x8.Head.Tag) && ((x7.Head.Count == x8.Head.Count))))) with hb3 | hb3
        · rw [hb3] at f38
          replace h := cT hb3 h
          refine Stk.runD 14 (fun t H n => t 0 = .ssl (encs c37 a0) a0.length false ∧ t 1 = .ssl (encs c37 a1) a1.length false ∧ t 9 = .sc (.int .i64 v4) ∧ t 52 = .sc (.bool true) ∧ n0 ≤ n) (fun J hJ => ?_) ?_
          · simp [-splice, f0, f1, f9, f38]
            exact hJ _ _ _ ⟨by simp [f0], by simp [f1], by simp [f9], by simp [-splice, f0, f1, f9, f38], ln0⟩
          clear f0 f1 f9 f38 ln0
          rintro t H n ⟨f0, f1, f9, f52, ln0⟩
          refine Stk.onD ?_
          exact Stk.ln 0 (by decide) (hJ3 _ _ _ ⟨true, h, f0, f1, f9, f52⟩)
        · rw [hb3] at f38
          replace h := cF hb3 h
          obtain ⟨x10, hx10, h⟩ := bnd h
          obtain ⟨i0x10, i1x10, i2x10, _⟩ := idx_ok hx10
          have ex10_3_35 : partOf T.T 35 (encs c37 a0) (v4.toNat * 5 + 3) = some (.ssl (encs c5 x10.Bytes) x10.Bytes.length false) := by
              have e0 := part_elem0 (e := c37) (z := 5) (T := T.T) (ty := 35) T.t35 (by decide) (by decide) hx10 3 (by decide)
              (try simp only [Nat.mul_one, Nat.add_zero] at e0)
              exact e0.trans (ld_37_3_35 _)
          refine Stk.runD 5 (fun t H n => t 0 = .ssl (encs c37 a0) a0.length false ∧ t 1 = .ssl (encs c37 a1) a1.length false ∧ t 9 = .sc (.int .i64 v4) ∧ t 38 = .sc (.bool false) ∧ t 43 = .ssl (encs c5 x10.Bytes) x10.Bytes.length false ∧ n0 ≤ n) (fun J hJ => ?_) ?_
          · simp [-splice, f0, f1, f9, f38, i0x10, i1x10, pd35, ex10_3_35]
            exact hJ _ _ _ ⟨by simp [f0], by simp [f1], by simp [f9], by simp [f38], by simp [-splice, f0, f1, f9, f38, i0x10, i1x10, pd35, ex10_3_35], ln0⟩
          clear f0 f1 f9 f38 ln0
          rintro t H n ⟨f0, f1, f9, f38, f43, ln0⟩
          refine Stk.ovD rfl (by simp [f0, f1, f9, f38, f43]) rfl (vop_text (c := c5) (fun _ => rfl) T.t35 rfl T.t9 rfl rfl f43) (by simp [f0, f1, f9, f38, f43]) rfl (fun t' ht' => ?_)
          refine Stk.gen (fun t H n => t 0 = .ssl (encs c37 a0) a0.length false ∧ t 1 = .ssl (encs c37 a1) a1.length false ∧ t 9 = .sc (.int .i64 v4) ∧ t 38 = .sc (.bool false) ∧ t 44 = .sc (.string (textOf x10.Bytes)) ∧ n0 ≤ n) ⟨by simp [ht', f0], by simp [ht', f1], by simp [ht', f9], by simp [ht', f38], by simp [ht'], ln0⟩ ?_
          clear f0 f1 f9 f38 f43 ln0 ht' t'
          rintro t H n ⟨f0, f1, f9, f38, f44, ln0⟩
          obtain ⟨x11, hx11, h⟩ := bnd h
          obtain ⟨i0x11, i1x11, i2x11, _⟩ := idx_ok hx11
          have ex11_3_35 : partOf T.T 35 (encs c37 a1) (v4.toNat * 5 + 3) = some (.ssl (encs c5 x11.Bytes) x11.Bytes.length false) := by
              have e0 := part_elem0 (e := c37) (z := 5) (T := T.T) (ty := 35) T.t35 (by decide) (by decide) hx11 3 (by decide)
              (try simp only [Nat.mul_one, Nat.add_zero] at e0)
              exact e0.trans (ld_37_3_35 _)
          refine Stk.runD 5 (fun t H n => t 0 = .ssl (encs c37 a0) a0.length false ∧ t 1 = .ssl (encs c37 a1) a1.length false ∧ t 9 = .sc (.int .i64 v4) ∧ t 38 = .sc (.bool false) ∧ t 44 = .sc (.string (textOf x10.Bytes)) ∧ t 49 = .ssl (encs c5 x11.Bytes) x11.Bytes.length false ∧ n0 ≤ n) (fun J hJ => ?_) ?_
          · simp [-splice, f0, f1, f9, f38, f44, i0x11, i1x11, pd35, ex11_3_35]
            exact hJ _ _ _ ⟨by simp [f0], by simp [f1], by simp [f9], by simp [f38], by simp [f44], by simp [-splice, f0, f1, f9, f38, f44, i0x11, i1x11, pd35, ex11_3_35], ln0⟩
          clear f0 f1 f9 f38 f44 ln0
          rintro t H n ⟨f0, f1, f9, f38, f44, f49, ln0⟩
          refine Stk.ovD rfl (by simp [f0, f1, f9, f38, f44, f49]) rfl (vop_text (c := c5) (fun _ => rfl) T.t35 rfl T.t9 rfl rfl f49) (by simp [f0, f1, f9, f38, f44, f49]) rfl (fun t' ht' => ?_)
          refine Stk.gen (fun t H n => t 0 = .ssl (encs c37 a0) a0.length false ∧ t 1 = .ssl (encs c37 a1) a1.length false ∧ t 9 = .sc (.int .i64 v4) ∧ t 38 = .sc (.bool false) ∧ t 44 = .sc (.string (textOf x10.Bytes)) ∧ t 50 = .sc (.string (textOf x11.Bytes)) ∧ n0 ≤ n) ⟨by simp [ht', f0], by simp [ht', f1], by simp [ht', f9], by simp [ht', f38], by simp [ht', f44], by simp [ht'], ln0⟩ ?_
          clear f0 f1 f9 f38 f44 f49 ln0 ht' t'
          rintro t H n ⟨f0, f1, f9, f38, f44, f50, ln0⟩
          refine Stk.runD 2 (fun t H n => t 0 = .ssl (encs c37 a0) a0.length false ∧ t 1 = .ssl (encs c37 a1) a1.length false ∧ t 9 = .sc (.int .i64 v4) ∧ t 52 = .sc (.bool (!((textOf x10.Bytes).toList == (textOf x11.Bytes).toList))) ∧ n0 ≤ n) (fun J hJ => ?_) ?_
          · simp [-splice, f0, f1, f9, f38, f44, f50]
            exact hJ _ _ _ ⟨by simp [f0], by simp [f1], by simp [f9], by simp [-splice, f0, f1, f9, f38, f44, f50], ln0⟩
          clear f0 f1 f9 f38 f44 f50 ln0
          rintro t H n ⟨f0, f1, f9, f52, ln0⟩
          refine Stk.onD ?_
          exact Stk.ln 0 (by decide) (hJ3 _ _ _ ⟨(!((textOf x10.Bytes).toList == (textOf x11.Bytes).toList)), h, f0, f1, f9, f52⟩)
      clear h f0 f1 f9 f38 ln0
      rintro t H n ⟨v9, h, f0, f1, f9, f52⟩
      subst hK3
      refine Stk.runD 1 (fun t H n => t 0 = .ssl (encs c37 a0) a0.length false ∧ t 1 = .ssl (encs c37 a1) a1.length false ∧ t 9 = .sc (.int .i64 v4) ∧ t 53 = .sc (.bool v9)) (fun J hJ => ?_) ?_
      · simp [-splice, f0, f1, f9, f52]
        exact hJ _ _ _ ⟨by simp [f0], by simp [f1], by simp [f9], by simp [-splice, f0, f1, f9, f52]⟩
      clear f0 f1 f9 f52
      rintro t H n ⟨f0, f1, f9, f53⟩
      obtain ⟨K4, hK4, h⟩ := jnd h
      refine Stk.jd 13 (fun t H n => ∃ v12 : Bool, K4 v12 = some r ∧ t 0 = .ssl (encs c37 a0) a0.length false ∧ t 1 = .ssl (encs c37 a1) a1.length false ∧ t 9 = .sc (.int .i64 v4) ∧ t 66 = .sc (.bool v12)) (fun J4 hJ4 => ?_) ?_
      · rcases Bool.eq_false_or_eq_true v9 with hb4 | hb4
        · rw [hb4] at f53
          replace h := cT hb4 h
          refine Stk.runD 13 (fun t H n => t 0 = .ssl (encs c37 a0) a0.length false ∧ t 1 = .ssl (encs c37 a1) a1.length false ∧ t 9 = .sc (.int .i64 v4) ∧ t 66 = .sc (.bool true)) (fun J hJ => ?_) ?_
          · simp [-splice, f0, f1, f9, f53]
            exact hJ _ _ _ ⟨by simp [f0], by simp [f1], by simp [f9], by simp [-splice, f0, f1, f9, f53]⟩
          clear f0 f1 f9 f53
          rintro t H n ⟨f0, f1, f9, f66⟩
          refine Stk.onD ?_
          exact Stk.ln 0 (by decide) (hJ4 _ _ _ ⟨true, h, f0, f1, f9, f66⟩)
        · rw [hb4] at f53
          replace h := cF hb4 h
          obtain ⟨x13, hx13, h⟩ := bnd h
          obtain ⟨i0x13, i1x13, i2x13, _⟩ := idx_ok hx13
          have ex13_4_23 : partOf T.T 23 (encs c37 a0) (v4.toNat * 5 + 4) = some (.ssl (encs c31 x13.Kids) x13.Kids.length false) := by
              have e0 := part_elem0 (e := c37) (z := 5) (T := T.T) (ty := 23) T.t23 (by decide) (by decide) hx13 4 (by decide)
              (try simp only [Nat.mul_one, Nat.add_zero] at e0)
              exact e0.trans (ld_37_4_23 _)
          obtain ⟨x14, hx14, h⟩ := bnd h
          obtain ⟨i0x14, i1x14, i2x14, _⟩ := idx_ok hx14
          have ex14_4_23 : partOf T.T 23 (encs c37 a1) (v4.toNat * 5 + 4) = some (.ssl (encs c31 x14.Kids) x14.Kids.length false) := by
              have e0 := part_elem0 (e := c37) (z := 5) (T := T.T) (ty := 23) T.t23 (by decide) (by decide) hx14 4 (by decide)
              (try simp only [Nat.mul_one, Nat.add_zero] at e0)
              exact e0.trans (ld_37_4_23 _)
          refine Stk.runD 10 (fun t H n => t 0 = .ssl (encs c37 a0) a0.length false ∧ t 1 = .ssl (encs c37 a1) a1.length false ∧ t 9 = .sc (.int .i64 v4) ∧ t 53 = .sc (.bool false) ∧ t 58 = .ssl (encs c31 x13.Kids) x13.Kids.length false ∧ t 63 = .ssl (encs c31 x14.Kids) x14.Kids.length false) (fun J hJ => ?_) ?_
          · simp [-splice, f0, f1, f9, f53, i0x13, i1x13, pd23, ex13_4_23, i0x14, i1x14, ex14_4_23]
            exact hJ _ _ _ ⟨by simp [f0], by simp [f1], by simp [f9], by simp [f53], by simp [-splice, f0, f1, f9, f53, i0x13, i1x13, pd23, ex13_4_23, i0x14, i1x14, ex14_4_23], by simp [-splice, f0, f1, f9, f53, i0x13, i1x13, pd23, ex13_4_23, i0x14, i1x14, ex14_4_23]⟩
          clear f0 f1 f9 f53
          rintro t H n ⟨f0, f1, f9, f53, f58, f63⟩
          obtain ⟨x15, hx15, h⟩ := bnd h
          refine Stk.cvD (g := 80) (args := [.ssl (encs c31 x13.Kids) x13.Kids.length false, .ssl (encs c31 x14.Kids) x14.Kids.length false]) (args' := [.ssl (encs c31 x13.Kids) x13.Kids.length false, .ssl (encs c31 x14.Kids) x14.Kids.length false]) (v := .sc (.bool x15)) [] (ok_R17_edges F _ _ _ hx15) rfl (by simp) rfl (by simp [f0, f1, f9, f53, f58, f63]) rfl rfl (by simp [f0, f1, f9, f53, f58, f63]) (.cons (.free (freeL_encs fr31 _)) (.cons (.free (freeL_encs fr31 _)) (.nil))) (.inl ⟨rfl, rfl⟩) (fun t' ht' => ?_)
          refine Stk.gen (fun t H n => t 0 = .ssl (encs c37 a0) a0.length false ∧ t 1 = .ssl (encs c37 a1) a1.length false ∧ t 9 = .sc (.int .i64 v4) ∧ t 53 = .sc (.bool false) ∧ t 64 = .sc (.bool x15)) ⟨by simp [ht', f0], by simp [ht', f1], by simp [ht', f9], by simp [ht', f53], by simp [ht']⟩ ?_
          clear f0 f1 f9 f53 f58 f63 ht' t'
          rintro t H n ⟨f0, f1, f9, f53, f64⟩
          refine Stk.runD 2 (fun t H n => t 0 = .ssl (encs c37 a0) a0.length false ∧ t 1 = .ssl (encs c37 a1) a1.length false ∧ t 9 = .sc (.int .i64 v4) ∧ t 66 = .sc (.bool (!x15))) (fun J hJ => ?_) ?_
          · simp [-splice, f0, f1, f9, f53, f64]
            exact hJ _ _ _ ⟨by simp [f0], by simp [f1], by simp [f9], by simp [-splice, f0, f1, f9, f53, f64]⟩
          clear f0 f1 f9 f53 f64
          rintro t H n ⟨f0, f1, f9, f66⟩
          refine Stk.onD ?_
          exact Stk.ln 0 (by decide) (hJ4 _ _ _ ⟨(!x15), h, f0, f1, f9, f66⟩)
      clear h f0 f1 f9 f53
      rintro t H n ⟨v12, h, f0, f1, f9, f66⟩
      subst hK4
      refine Stk.onD ?_
      refine Stk.cond v12 (by exact f66) (fun hb16 => ?_) (fun hb16 => ?_)
      · have h := cT hb16 h
        refine Stk.sq ?_
        refine Stk.rg ?_
        refine Stk.run 1 (fun t H n => t 8 = .sc (.bool false)) (fun J hJ => ?_) ?_
        · simp [-splice, f0, f1, f9, f66]
          exact hJ _ _ _ (by simp [-splice, f0, f1, f9, f66])
        clear f0 f1 f9 f66
        rintro t H n f8
        refine Stk.on ?_
        refine Stk.rt ?_
        have hq := Option.some.inj h; subst hq
        exact (hr _ _ _ (.sc (.bool false)) ([]) (by simp [f8]) (.inr (.inr (.free (rfl))))).1
      · have h := cF hb16 h
        refine Stk.sk ?_
        refine Stk.bn ?_
        refine Stk.rg ?_
        refine Stk.run 3 (fun t H n => t 0 = .ssl (encs c37 a0) a0.length false ∧ t 1 = .ssl (encs c37 a1) a1.length false ∧ t 9 = .sc (.int .i64 (IntKind.i64.wrap (v4 + 1)))) (fun J hJ => ?_) ?_
        · simp [-splice, f0, f1, f9, f66]
          exact hJ _ _ _ ⟨by simp [f0], by simp [f1], by simp [-splice, f0, f1, f9, f66]⟩
        clear f0 f1 f9 f66
        rintro t H n ⟨f0, f1, f9⟩
        refine Stk.on ?_
        exact Stk.ln μ (Nat.lt_succ_self _) (hJ2 _ _ _ _ ⟨(IntKind.i64.wrap (v4 + 1)), h, f0, f1, f9⟩)
    · have h := cF hb6 h
      refine Stk.ex rfl ?_
      refine Stk.sq ?_
      refine Stk.rg ?_
      refine Stk.run 1 (fun t H n => t 8 = .sc (.bool true)) (fun J hJ => ?_) ?_
      · simp [-splice, f0, f1, f9, f24]
        exact hJ _ _ _ (by simp [-splice, f0, f1, f9, f24])
      clear f0 f1 f9 f24
      rintro t H n f8
      refine Stk.on ?_
      refine Stk.rt ?_
      have hq := Option.some.inj h; subst hq
      exact (hr _ _ _ (.sc (.bool true)) ([]) (by simp [f8]) (.inr (.inr (.free (rfl))))).1
end Go.Proofs.Ytfflojbgikfbmaa.M
