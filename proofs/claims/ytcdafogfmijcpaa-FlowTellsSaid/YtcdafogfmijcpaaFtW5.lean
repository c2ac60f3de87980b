/-
 The functions come to them.
-/
import Derived.Test.YtcdafogfmijcpaaFtM
import Derived.Test.YtcdafogfmijcpaaFtW3
import Derived.Test.YtcdafogfmijcpaaFtW4
import Derived.Test.YtcdafogfmijcpaaFtLK
namespace Go.Proofs.Ytcdafogfmijcpaa.M
open Go.Proofs.YtcdafogfmijcpaaW.Ah Go.Proofs.Ytcdafogfmijcpaa
set_option linter.unusedVariables false
set_option linter.unusedSimpArgs false
set_option maxRecDepth 8000
attribute [local simp] T.t3 T.t4 T.t26 T.t29 T.t30 T.t36 T.t42 List.range List.range.loop
attribute [-simp] appendAV fillAV
theorem ok_R21_Check (F : Nat) (a0 : api_Code) (r : List (List (List Bool)) × Int) (h : R21_Check F a0 = some r) : RunF Try.prog T.T 9 [.agg (c26 a0)] (.tup [.ssl (encs c36 r.1) r.1.length false, .sc (.int .i64 r.2)]) := Flo.R21_Check_run a0 r h

theorem ok_R21_Bools (F : Nat) (a0 : (List Bool)) (a1 : (List Bool)) (r : Bool) (h : R21_Bools F a0 a1 = some r) : RunF Try.prog T.T 20 [.ssl (encs c4 a0) a0.length false, .ssl (encs c4 a1) a1.length false] (.sc (.bool r)) := by
 rw [R21_Bools] at h
 refine RunF.z Try.func20 rfl rfl rfl rfl rfl (fun C hr => ?_)
 refine Stk.gen (fun t H n => t 0 = .ssl (encs c4 a0) a0.length false ∧ t 1 = .ssl (encs c4 a1) a1.length false) ⟨by simp, by simp⟩ ?_
 rintro t H n ⟨f0, f1⟩
 refine Stk.sq ?_
 refine Stk.rg ?_
 refine Stk.run 1 (fun t H n => t 0 = .ssl (encs c4 a0) a0.length false ∧ t 1 = .ssl (encs c4 a1) a1.length false) (fun J hJ => ?_) ?_
 ·simp [-splice, f0, f1]
  exact hJ _ _ _ ⟨by simp [f0], by simp [f1]⟩
 clear f0 f1
 rintro t H n ⟨f0, f1⟩
 refine Stk.on ?_
 refine Stk.sq ?_
 refine Stk.sq ?_
 refine Stk.rg ?_
 refine Stk.run 5 (fun t H n => t 0 = .ssl (encs c4 a0) a0.length false ∧ t 1 = .ssl (encs c4 a1) a1.length false ∧ t 10 = .sc (.bool ((a0.length : Int) != (a1.length : Int)))) (fun J hJ => ?_) ?_
 ·simp [-splice, f0, f1]
  exact hJ _ _ _ ⟨by simp [f0], by simp [f1], by simp [-splice, f0, f1]⟩
 clear f0 f1
 rintro t H n ⟨f0, f1, f10⟩
 refine Stk.on ?_
 refine Stk.cond ((a0.length : Int) != (a1.length : Int)) (by exact f10) (fun hb1 => ?_) (fun hb1 => ?_)
 ·have h := cT hb1 h
  refine Stk.sq ?_
  refine Stk.rg ?_
  refine Stk.run 1 (fun t H n => t 4 = .sc (.bool false)) (fun J hJ => ?_) ?_
  ·simp [-splice, f0, f1, f10]
   exact hJ _ _ _ (by simp [-splice, f0, f1, f10])
  clear f0 f1 f10
  rintro t H n f4
  refine Stk.on ?_
  refine Stk.rt ?_
  have hq := Option.some.inj h; subst hq
  exact (hr _ _ _ (.sc (.bool false)) ([]) (by simp [f4]) (.inr (.inr (.free (rfl))))).1
 ·have h := cF hb1 h
  refine Stk.sk ?_
  refine Stk.sq ?_
  refine Stk.sq ?_
  refine Stk.rg ?_
  refine Stk.run 1 (fun t H n => t 0 = .ssl (encs c4 a0) a0.length false ∧ t 1 = .ssl (encs c4 a1) a1.length false ∧ t 5 = .sc (.int .i64 0)) (fun J hJ => ?_) ?_
  ·simp [-splice, f0, f1, f10]
   exact hJ _ _ _ ⟨by simp [f0], by simp [f1], by simp [-splice, f0, f1, f10]⟩
  clear f0 f1 f10
  rintro t H n ⟨f0, f1, f5⟩
  refine Stk.on ?_
  refine Stk.bk ?_
  refine Stk.lo (fun μ t H n => ∃ v2 : Int, R21_Bools_L0 F a0 a1 μ v2 = some r ∧ t 0 = .ssl (encs c4 a0) a0.length false ∧ t 1 = .ssl (encs c4 a1) a1.length false ∧ t 5 = .sc (.int .i64 v2)) F ⟨0, h, f0, f1, f5⟩ ?_
  clear h f0 f1 f5
  rintro J1 hJ1 μ t H n ⟨v2, h, f0, f1, f5⟩
  cases μ with
  | zero => exact absurd h (by simp [R21_Bools_L0])
  | succ μ =>
  rw [R21_Bools_L0] at h
  refine Stk.sq ?_
  refine Stk.sq ?_
  refine Stk.rg ?_
  refine Stk.run 4 (fun t H n => t 0 = .ssl (encs c4 a0) a0.length false ∧ t 1 = .ssl (encs c4 a1) a1.length false ∧ t 5 = .sc (.int .i64 v2) ∧ t 14 = .sc (.bool (decide (v2 < (a0.length : Int))))) (fun J hJ => ?_) ?_
  ·simp [-splice, f0, f1, f5]
   exact hJ _ _ _ ⟨by simp [f0], by simp [f1], by simp [f5], by simp [-splice, f0, f1, f5]⟩
  clear f0 f1 f5
  rintro t H n ⟨f0, f1, f5, f14⟩
  refine Stk.on ?_
  refine Stk.cond (decide (v2 < (a0.length : Int))) (by exact f14) (fun hb4 => ?_) (fun hb4 => ?_)
  ·have h := cT hb4 h
   refine Stk.sk ?_
   refine Stk.sq ?_
   refine Stk.bk ?_
   refine Stk.sq ?_
   obtain ⟨n0, hn0⟩ : ∃ m, m = n := ⟨n, rfl⟩
   have ln0 : n0 ≤ n := Nat.le_of_eq hn0
   refine Stk.rgD [.rd [], .rd [], .rd [], .rd [], .rd [], .rd [], .rd [], .rd [], .rd []] none (by kernel_rfl) (by rfl) rfl (by simp [below]) rfl ?_
   obtain ⟨x5, hx5, h⟩ := bnd h
   obtain ⟨i0x5, i1x5, i2x5, _⟩ := idx_ok hx5
   have ex5_0_4 : partOf T.T 4 (encs c4 a0) (v2.toNat) = some (.sc (.bool x5)) := by
     have e0 := part_elem0 (e := c4) (z := 1) (T := T.T) (ty := 4) T.t4 (by decide) (by decide) hx5 0 (by decide)
     (try simp only [Nat.mul_one, Nat.add_zero] at e0)
     exact e0.trans rfl
   obtain ⟨x6, hx6, h⟩ := bnd h
   obtain ⟨i0x6, i1x6, i2x6, _⟩ := idx_ok hx6
   have ex6_0_4 : partOf T.T 4 (encs c4 a1) (v2.toNat) = some (.sc (.bool x6)) := by
     have e0 := part_elem0 (e := c4) (z := 1) (T := T.T) (ty := 4) T.t4 (by decide) (by decide) hx6 0 (by decide)
     (try simp only [Nat.mul_one, Nat.add_zero] at e0)
     exact e0.trans rfl
   refine Stk.runD 9 (fun t H n => t 0 = .ssl (encs c4 a0) a0.length false ∧ t 1 = .ssl (encs c4 a1) a1.length false ∧ t 5 = .sc (.int .i64 v2) ∧ t 25 = .sc (.bool (!(x5 == x6))) ∧ n0 ≤ n) (fun J hJ => ?_) ?_
   ·simp [-splice, f0, f1, f5, f14, i0x5, i1x5, pd4, ex5_0_4, i0x6, i1x6, ex6_0_4, eqM4]
    exact hJ _ _ _ ⟨by simp [f0], by simp [f1], by simp [f5], by simp [-splice, f0, f1, f5, f14, i0x5, i1x5, pd4, ex5_0_4, i0x6, i1x6, ex6_0_4, eqM4], ln0⟩
   clear f0 f1 f5 f14 ln0
   rintro t H n ⟨f0, f1, f5, f25, ln0⟩
   refine Stk.onD ?_
   refine Stk.cond (!(x5 == x6)) (by exact f25) (fun hb7 => ?_) (fun hb7 => ?_)
   ·have h := cT hb7 h
    refine Stk.sq ?_
    refine Stk.rg ?_
    refine Stk.run 1 (fun t H n => t 4 = .sc (.bool false)) (fun J hJ => ?_) ?_
    ·simp [-splice, f0, f1, f5, f25]
     exact hJ _ _ _ (by simp [-splice, f0, f1, f5, f25])
    clear f0 f1 f5 f25 ln0
    rintro t H n f4
    refine Stk.on ?_
    refine Stk.rt ?_
    have hq := Option.some.inj h; subst hq
    exact (hr _ _ _ (.sc (.bool false)) ([]) (by simp [f4]) (.inr (.inr (.free (rfl))))).1
   ·have h := cF hb7 h
    refine Stk.sk ?_
    refine Stk.bn ?_
    refine Stk.rg ?_
    refine Stk.run 3 (fun t H n => t 0 = .ssl (encs c4 a0) a0.length false ∧ t 1 = .ssl (encs c4 a1) a1.length false ∧ t 5 = .sc (.int .i64 (IntKind.i64.wrap (v2 + 1)))) (fun J hJ => ?_) ?_
    ·simp [-splice, f0, f1, f5, f25]
     exact hJ _ _ _ ⟨by simp [f0], by simp [f1], by simp [-splice, f0, f1, f5, f25]⟩
    clear f0 f1 f5 f25 ln0
    rintro t H n ⟨f0, f1, f5⟩
    refine Stk.on ?_
    exact Stk.ln μ (Nat.lt_succ_self _) (hJ1 _ _ _ _ ⟨(IntKind.i64.wrap (v2 + 1)), h, f0, f1, f5⟩)
  ·have h := cF hb4 h
   refine Stk.ex rfl ?_
   refine Stk.sq ?_
   refine Stk.rg ?_
   refine Stk.run 1 (fun t H n => t 4 = .sc (.bool true)) (fun J hJ => ?_) ?_
   ·simp [-splice, f0, f1, f5, f14]
    exact hJ _ _ _ (by simp [-splice, f0, f1, f5, f14])
   clear f0 f1 f5 f14
   rintro t H n f4
   refine Stk.on ?_
   refine Stk.rt ?_
   have hq := Option.some.inj h; subst hq
   exact (hr _ _ _ (.sc (.bool true)) ([]) (by simp [f4]) (.inr (.inr (.free (rfl))))).1
theorem ok_R21_Same (F : Nat) (a0 : (List (List (List Bool)))) (a1 : (List (List (List Bool)))) (r : Bool) (h : R21_Same F a0 a1 = some r) : RunF Try.prog T.T 10 [.ssl (encs c36 a0) a0.length false, .ssl (encs c36 a1) a1.length false] (.sc (.bool r)) := by
 rw [R21_Same] at h
 refine RunF.z Try.func10 rfl rfl rfl rfl rfl (fun C hr => ?_)
 refine Stk.gen (fun t H n => t 0 = .ssl (encs c36 a0) a0.length false ∧ t 1 = .ssl (encs c36 a1) a1.length false) ⟨by simp, by simp⟩ ?_
 rintro t H n ⟨f0, f1⟩
 refine Stk.sq ?_
 refine Stk.rg ?_
 refine Stk.run 1 (fun t H n => t 0 = .ssl (encs c36 a0) a0.length false ∧ t 1 = .ssl (encs c36 a1) a1.length false) (fun J hJ => ?_) ?_
 ·simp [-splice, f0, f1]
  exact hJ _ _ _ ⟨by simp [f0], by simp [f1]⟩
 clear f0 f1
 rintro t H n ⟨f0, f1⟩
 refine Stk.on ?_
 refine Stk.sq ?_
 refine Stk.sq ?_
 refine Stk.rg ?_
 refine Stk.run 5 (fun t H n => t 0 = .ssl (encs c36 a0) a0.length false ∧ t 1 = .ssl (encs c36 a1) a1.length false ∧ t 11 = .sc (.bool ((a0.length : Int) != (a1.length : Int)))) (fun J hJ => ?_) ?_
 ·simp [-splice, f0, f1]
  exact hJ _ _ _ ⟨by simp [f0], by simp [f1], by simp [-splice, f0, f1]⟩
 clear f0 f1
 rintro t H n ⟨f0, f1, f11⟩
 refine Stk.on ?_
 refine Stk.cond ((a0.length : Int) != (a1.length : Int)) (by exact f11) (fun hb1 => ?_) (fun hb1 => ?_)
 ·have h := cT hb1 h
  refine Stk.sq ?_
  refine Stk.rg ?_
  refine Stk.run 1 (fun t H n => t 4 = .sc (.bool false)) (fun J hJ => ?_) ?_
  ·simp [-splice, f0, f1, f11]
   exact hJ _ _ _ (by simp [-splice, f0, f1, f11])
  clear f0 f1 f11
  rintro t H n f4
  refine Stk.on ?_
  refine Stk.rt ?_
  have hq := Option.some.inj h; subst hq
  exact (hr _ _ _ (.sc (.bool false)) ([]) (by simp [f4]) (.inr (.inr (.free (rfl))))).1
 ·have h := cF hb1 h
  refine Stk.sk ?_
  refine Stk.sq ?_
  refine Stk.sq ?_
  refine Stk.rg ?_
  refine Stk.run 1 (fun t H n => t 0 = .ssl (encs c36 a0) a0.length false ∧ t 1 = .ssl (encs c36 a1) a1.length false ∧ t 5 = .sc (.int .i64 0)) (fun J hJ => ?_) ?_
  ·simp [-splice, f0, f1, f11]
   exact hJ _ _ _ ⟨by simp [f0], by simp [f1], by simp [-splice, f0, f1, f11]⟩
  clear f0 f1 f11
  rintro t H n ⟨f0, f1, f5⟩
  refine Stk.on ?_
  refine Stk.bk ?_
  refine Stk.lo (fun μ t H n => ∃ v2 : Int, R21_Same_L0 F a0 a1 μ v2 = some r ∧ t 0 = .ssl (encs c36 a0) a0.length false ∧ t 1 = .ssl (encs c36 a1) a1.length false ∧ t 5 = .sc (.int .i64 v2)) F ⟨0, h, f0, f1, f5⟩ ?_
  clear h f0 f1 f5
  rintro J1 hJ1 μ t H n ⟨v2, h, f0, f1, f5⟩
  cases μ with
  | zero => exact absurd h (by simp [R21_Same_L0])
  | succ μ =>
  rw [R21_Same_L0] at h
  refine Stk.sq ?_
  refine Stk.sq ?_
  refine Stk.rg ?_
  refine Stk.run 4 (fun t H n => t 0 = .ssl (encs c36 a0) a0.length false ∧ t 1 = .ssl (encs c36 a1) a1.length false ∧ t 5 = .sc (.int .i64 v2) ∧ t 15 = .sc (.bool (decide (v2 < (a0.length : Int))))) (fun J hJ => ?_) ?_
  ·simp [-splice, f0, f1, f5]
   exact hJ _ _ _ ⟨by simp [f0], by simp [f1], by simp [f5], by simp [-splice, f0, f1, f5]⟩
  clear f0 f1 f5
  rintro t H n ⟨f0, f1, f5, f15⟩
  refine Stk.on ?_
  refine Stk.cond (decide (v2 < (a0.length : Int))) (by exact f15) (fun hb4 => ?_) (fun hb4 => ?_)
  ·have h := cT hb4 h
   refine Stk.sk ?_
   refine Stk.sq ?_
   refine Stk.bk ?_
   refine Stk.sq ?_
   refine Stk.sq ?_
   obtain ⟨n0, hn0⟩ : ∃ m, m = n := ⟨n, rfl⟩
   have ln0 : n0 ≤ n := Nat.le_of_eq hn0
   refine Stk.rgD [.rd [], .rd [], .rd [], .rd [], .rd [], .rd [], .rd [], .rd [], .rd [], .rd [], .rd []] none (by kernel_rfl) (by rfl) rfl (by simp [below]) rfl ?_
   obtain ⟨x5, hx5, h⟩ := bnd h
   obtain ⟨i0x5, i1x5, i2x5, _⟩ := idx_ok hx5
   have ex5_0_36 : partOf T.T 36 (encs c36 a0) (v2.toNat) = some (.ssl (encs c42 x5) x5.length false) := by
     have e0 := part_elem0 (e := c36) (z := 1) (T := T.T) (ty := 36) T.t36 (by decide) (by decide) hx5 0 (by decide)
     (try simp only [Nat.mul_one, Nat.add_zero] at e0)
     exact e0.trans rfl
   obtain ⟨x6, hx6, h⟩ := bnd h
   obtain ⟨i0x6, i1x6, i2x6, _⟩ := idx_ok hx6
   have ex6_0_36 : partOf T.T 36 (encs c36 a1) (v2.toNat) = some (.ssl (encs c42 x6) x6.length false) := by
     have e0 := part_elem0 (e := c36) (z := 1) (T := T.T) (ty := 36) T.t36 (by decide) (by decide) hx6 0 (by decide)
     (try simp only [Nat.mul_one, Nat.add_zero] at e0)
     exact e0.trans rfl
   refine Stk.runD 11 (fun t H n => t 0 = .ssl (encs c36 a0) a0.length false ∧ t 1 = .ssl (encs c36 a1) a1.length false ∧ t 5 = .sc (.int .i64 v2) ∧ t 28 = .sc (.bool ((x5.length : Int) != (x6.length : Int))) ∧ n0 ≤ n) (fun J hJ => ?_) ?_
   ·simp [-splice, f0, f1, f5, f15, i0x5, i1x5, pd36, ex5_0_36, i0x6, i1x6, ex6_0_36]
    exact hJ _ _ _ ⟨by simp [f0], by simp [f1], by simp [f5], by simp [-splice, f0, f1, f5, f15, i0x5, i1x5, pd36, ex5_0_36, i0x6, i1x6, ex6_0_36], ln0⟩
   clear f0 f1 f5 f15 ln0
   rintro t H n ⟨f0, f1, f5, f28, ln0⟩
   refine Stk.onD ?_
   refine Stk.cond ((x5.length : Int) != (x6.length : Int)) (by exact f28) (fun hb7 => ?_) (fun hb7 => ?_)
   ·have h := cT hb7 h
    refine Stk.sq ?_
    refine Stk.rg ?_
    refine Stk.run 1 (fun t H n => t 4 = .sc (.bool false)) (fun J hJ => ?_) ?_
    ·simp [-splice, f0, f1, f5, f28]
     exact hJ _ _ _ (by simp [-splice, f0, f1, f5, f28])
    clear f0 f1 f5 f28 ln0
    rintro t H n f4
    refine Stk.on ?_
    refine Stk.rt ?_
    have hq := Option.some.inj h; subst hq
    exact (hr _ _ _ (.sc (.bool false)) ([]) (by simp [f4]) (.inr (.inr (.free (rfl))))).1
   ·have h := cF hb7 h
    refine Stk.sk ?_
    refine Stk.sq ?_
    refine Stk.rg ?_
    refine Stk.run 1 (fun t H n => t 0 = .ssl (encs c36 a0) a0.length false ∧ t 1 = .ssl (encs c36 a1) a1.length false ∧ t 5 = .sc (.int .i64 v2) ∧ t 6 = .sc (.int .i64 0)) (fun J hJ => ?_) ?_
    ·simp [-splice, f0, f1, f5, f28]
     exact hJ _ _ _ ⟨by simp [f0], by simp [f1], by simp [f5], by simp [-splice, f0, f1, f5, f28]⟩
    clear f0 f1 f5 f28 ln0
    rintro t H n ⟨f0, f1, f5, f6⟩
    refine Stk.on ?_
    obtain ⟨K2, hK2, h⟩ := jnd h
    refine Stk.jn (fun t H n => K2 () = some r ∧ t 0 = .ssl (encs c36 a0) a0.length false ∧ t 1 = .ssl (encs c36 a1) a1.length false ∧ t 5 = .sc (.int .i64 v2)) trivial (fun J2 hJ2 => ?_) ?_
    ·skip
     refine Stk.bk ?_
     refine Stk.lo (fun μ t H n => ∃ v8 : Int, R21_Same_L1 F a0 a1 v2 K2 μ v8 = some r ∧ t 0 = .ssl (encs c36 a0) a0.length false ∧ t 1 = .ssl (encs c36 a1) a1.length false ∧ t 5 = .sc (.int .i64 v2) ∧ t 6 = .sc (.int .i64 v8)) F ⟨0, h, f0, f1, f5, f6⟩ ?_
     clear h f0 f1 f5 f6
     rintro J3 hJ3 μ t H n ⟨v8, h, f0, f1, f5, f6⟩
     cases μ with
     | zero => exact absurd h (by simp [R21_Same_L1])
     | succ μ =>
     rw [R21_Same_L1] at h
     refine Stk.sq ?_
     refine Stk.sq ?_
     refine Stk.rg ?_
     obtain ⟨x10, hx10, h⟩ := bnd h
     obtain ⟨i0x10, i1x10, i2x10, _⟩ := idx_ok hx10
     have ex10_0_36 : partOf T.T 36 (encs c36 a0) (v2.toNat) = some (.ssl (encs c42 x10) x10.length false) := by
       have e0 := part_elem0 (e := c36) (z := 1) (T := T.T) (ty := 36) T.t36 (by decide) (by decide) hx10 0 (by decide)
       (try simp only [Nat.mul_one, Nat.add_zero] at e0)
       exact e0.trans rfl
     refine Stk.run 7 (fun t H n => t 0 = .ssl (encs c36 a0) a0.length false ∧ t 1 = .ssl (encs c36 a1) a1.length false ∧ t 5 = .sc (.int .i64 v2) ∧ t 6 = .sc (.int .i64 v8) ∧ t 35 = .sc (.bool (decide (v8 < (x10.length : Int))))) (fun J hJ => ?_) ?_
     ·simp [-splice, f0, f1, f5, f6, i0x10, i1x10, pd36, ex10_0_36]
      exact hJ _ _ _ ⟨by simp [f0], by simp [f1], by simp [f5], by simp [f6], by simp [-splice, f0, f1, f5, f6, i0x10, i1x10, pd36, ex10_0_36]⟩
     clear f0 f1 f5 f6
     rintro t H n ⟨f0, f1, f5, f6, f35⟩
     refine Stk.on ?_
     refine Stk.cond (decide (v8 < (x10.length : Int))) (by exact f35) (fun hb11 => ?_) (fun hb11 => ?_)
     ·have h := cT hb11 h
      refine Stk.sk ?_
      refine Stk.sq ?_
      refine Stk.bk ?_
      refine Stk.sq ?_
      obtain ⟨n0, hn0⟩ : ∃ m, m = n := ⟨n, rfl⟩
      have ln0 : n0 ≤ n := Nat.le_of_eq hn0
      refine Stk.rgD [.rd [], .rd [], .rd [], .rd [], .rd [], .rd [], .rd [], .rd [], .rd [], .rd [], .rd [], .rd [], .rd [], .rd [], .rd [], .rd []] none (by kernel_rfl) (by rfl) rfl (by simp [below]) rfl ?_
      obtain ⟨x12, hx12, h⟩ := bnd h
      obtain ⟨i0x12, i1x12, i2x12, _⟩ := idx_ok hx12
      have ex12_0_36 : partOf T.T 36 (encs c36 a0) (v2.toNat) = some (.ssl (encs c42 x12) x12.length false) := by
        have e0 := part_elem0 (e := c36) (z := 1) (T := T.T) (ty := 36) T.t36 (by decide) (by decide) hx12 0 (by decide)
        (try simp only [Nat.mul_one, Nat.add_zero] at e0)
        exact e0.trans rfl
      obtain ⟨x13, hx13, h⟩ := bnd h
      obtain ⟨i0x13, i1x13, i2x13, _⟩ := idx_ok hx13
      have ex13_0_42 : partOf T.T 42 (encs c42 x12) (v8.toNat) = some (.ssl (encs c4 x13) x13.length false) := by
        have e0 := part_elem0 (e := c42) (z := 1) (T := T.T) (ty := 42) T.t42 (by decide) (by decide) hx13 0 (by decide)
        (try simp only [Nat.mul_one, Nat.add_zero] at e0)
        exact e0.trans rfl
      obtain ⟨x14, hx14, h⟩ := bnd h
      obtain ⟨i0x14, i1x14, i2x14, _⟩ := idx_ok hx14
      have ex14_0_36 : partOf T.T 36 (encs c36 a1) (v2.toNat) = some (.ssl (encs c42 x14) x14.length false) := by
        have e0 := part_elem0 (e := c36) (z := 1) (T := T.T) (ty := 36) T.t36 (by decide) (by decide) hx14 0 (by decide)
        (try simp only [Nat.mul_one, Nat.add_zero] at e0)
        exact e0.trans rfl
      obtain ⟨x15, hx15, h⟩ := bnd h
      obtain ⟨i0x15, i1x15, i2x15, _⟩ := idx_ok hx15
      have ex15_0_42 : partOf T.T 42 (encs c42 x14) (v8.toNat) = some (.ssl (encs c4 x15) x15.length false) := by
        have e0 := part_elem0 (e := c42) (z := 1) (T := T.T) (ty := 42) T.t42 (by decide) (by decide) hx15 0 (by decide)
        (try simp only [Nat.mul_one, Nat.add_zero] at e0)
        exact e0.trans rfl
      refine Stk.runD 14 (fun t H n => t 0 = .ssl (encs c36 a0) a0.length false ∧ t 1 = .ssl (encs c36 a1) a1.length false ∧ t 5 = .sc (.int .i64 v2) ∧ t 6 = .sc (.int .i64 v8) ∧ t 44 = .ssl (encs c4 x13) x13.length false ∧ t 51 = .ssl (encs c4 x15) x15.length false ∧ n0 ≤ n) (fun J hJ => ?_) ?_
      ·simp [-splice, f0, f1, f5, f6, f35, i0x12, i1x12, pd36, ex12_0_36, i0x13, i1x13, pd42, ex13_0_42, i0x14, i1x14, ex14_0_36, i0x15, i1x15, ex15_0_42]
       exact hJ _ _ _ ⟨by simp [f0], by simp [f1], by simp [f5], by simp [f6], by simp [-splice, f0, f1, f5, f6, f35, i0x12, i1x12, pd36, ex12_0_36, i0x13, i1x13, pd42, ex13_0_42, i0x14, i1x14, ex14_0_36, i0x15, i1x15, ex15_0_42], by simp [-splice, f0, f1, f5, f6, f35, i0x12, i1x12, pd36, ex12_0_36, i0x13, i1x13, pd42, ex13_0_42, i0x14, i1x14, ex14_0_36, i0x15, i1x15, ex15_0_42], ln0⟩
      clear f0 f1 f5 f6 f35 ln0
      rintro t H n ⟨f0, f1, f5, f6, f44, f51, ln0⟩
      obtain ⟨x16, hx16, h⟩ := bnd h
      refine Stk.cvD (g := 20) (args := [.ssl (encs c4 x13) x13.length false, .ssl (encs c4 x15) x15.length false]) (args' := [.ssl (encs c4 x13) x13.length false, .ssl (encs c4 x15) x15.length false]) (v := .sc (.bool x16)) [] (ok_R21_Bools F _ _ _ hx16) rfl (by simp) rfl (by simp [f0, f1, f5, f6, f44, f51]) rfl rfl (by simp [f0, f1, f5, f6, f44, f51]) (.cons (.free (freeL_encs fr4 _)) (.cons (.free (freeL_encs fr4 _)) (.nil))) (.inl ⟨rfl, rfl⟩) (fun t' ht' => ?_)
      refine Stk.gen (fun t H n => t 0 = .ssl (encs c36 a0) a0.length false ∧ t 1 = .ssl (encs c36 a1) a1.length false ∧ t 5 = .sc (.int .i64 v2) ∧ t 6 = .sc (.int .i64 v8) ∧ t 52 = .sc (.bool x16) ∧ n0 ≤ n) ⟨by simp [ht', f0], by simp [ht', f1], by simp [ht', f5], by simp [ht', f6], by simp [ht'], ln0⟩ ?_
      clear f0 f1 f5 f6 f44 f51 ln0 ht' t'
      rintro t H n ⟨f0, f1, f5, f6, f52, ln0⟩
      refine Stk.runD 1 (fun t H n => t 0 = .ssl (encs c36 a0) a0.length false ∧ t 1 = .ssl (encs c36 a1) a1.length false ∧ t 5 = .sc (.int .i64 v2) ∧ t 6 = .sc (.int .i64 v8) ∧ t 53 = .sc (.bool (!x16)) ∧ n0 ≤ n) (fun J hJ => ?_) ?_
      ·simp [-splice, f0, f1, f5, f6, f52]
       exact hJ _ _ _ ⟨by simp [f0], by simp [f1], by simp [f5], by simp [f6], by simp [-splice, f0, f1, f5, f6, f52], ln0⟩
      clear f0 f1 f5 f6 f52 ln0
      rintro t H n ⟨f0, f1, f5, f6, f53, ln0⟩
      refine Stk.onD ?_
      refine Stk.cond (!x16) (by exact f53) (fun hb17 => ?_) (fun hb17 => ?_)
      ·have h := cT hb17 h
       refine Stk.sq ?_
       refine Stk.rg ?_
       refine Stk.run 1 (fun t H n => t 4 = .sc (.bool false)) (fun J hJ => ?_) ?_
       ·simp [-splice, f0, f1, f5, f6, f53]
        exact hJ _ _ _ (by simp [-splice, f0, f1, f5, f6, f53])
       clear f0 f1 f5 f6 f53 ln0
       rintro t H n f4
       refine Stk.on ?_
       refine Stk.rt ?_
       have hq := Option.some.inj h; subst hq
       exact (hr _ _ _ (.sc (.bool false)) ([]) (by simp [f4]) (.inr (.inr (.free (rfl))))).1
      ·have h := cF hb17 h
       refine Stk.sk ?_
       refine Stk.bn ?_
       refine Stk.rg ?_
       refine Stk.run 3 (fun t H n => t 0 = .ssl (encs c36 a0) a0.length false ∧ t 1 = .ssl (encs c36 a1) a1.length false ∧ t 5 = .sc (.int .i64 v2) ∧ t 6 = .sc (.int .i64 (IntKind.i64.wrap (v8 + 1)))) (fun J hJ => ?_) ?_
       ·simp [-splice, f0, f1, f5, f6, f53]
        exact hJ _ _ _ ⟨by simp [f0], by simp [f1], by simp [f5], by simp [-splice, f0, f1, f5, f6, f53]⟩
       clear f0 f1 f5 f6 f53 ln0
       rintro t H n ⟨f0, f1, f5, f6⟩
       refine Stk.on ?_
       exact Stk.ln μ (Nat.lt_succ_self _) (hJ3 _ _ _ _ ⟨(IntKind.i64.wrap (v8 + 1)), h, f0, f1, f5, f6⟩)
     ·have h := cF hb11 h
      refine Stk.ex rfl ?_
      exact Stk.ln 0 (by decide) (hJ2 _ _ _ ⟨h, f0, f1, f5⟩)
    clear h f0 f1 f5 f6
    rintro t H n ⟨h, f0, f1, f5⟩
    subst hK2
    refine Stk.bn ?_
    refine Stk.rg ?_
    refine Stk.run 3 (fun t H n => t 0 = .ssl (encs c36 a0) a0.length false ∧ t 1 = .ssl (encs c36 a1) a1.length false ∧ t 5 = .sc (.int .i64 (IntKind.i64.wrap (v2 + 1)))) (fun J hJ => ?_) ?_
    ·simp [-splice, f0, f1, f5]
     exact hJ _ _ _ ⟨by simp [f0], by simp [f1], by simp [-splice, f0, f1, f5]⟩
    clear f0 f1 f5
    rintro t H n ⟨f0, f1, f5⟩
    refine Stk.on ?_
    exact Stk.ln μ (Nat.lt_succ_self _) (hJ1 _ _ _ _ ⟨(IntKind.i64.wrap (v2 + 1)), h, f0, f1, f5⟩)
  ·have h := cF hb4 h
   refine Stk.ex rfl ?_
   refine Stk.sq ?_
   refine Stk.rg ?_
   refine Stk.run 1 (fun t H n => t 4 = .sc (.bool true)) (fun J hJ => ?_) ?_
   ·simp [-splice, f0, f1, f5, f15]
    exact hJ _ _ _ (by simp [-splice, f0, f1, f5, f15])
   clear f0 f1 f5 f15
   rintro t H n f4
   refine Stk.on ?_
   refine Stk.rt ?_
   have hq := Option.some.inj h; subst hq
   exact (hr _ _ _ (.sc (.bool true)) ([]) (by simp [f4]) (.inr (.inr (.free (rfl))))).1
theorem ok_R21_Height (F : Nat) (a0 : (List (List Bool))) (r : Int) (h : R21_Height F a0 = some r) : RunF Try.prog T.T 12 [.ssl (encs c42 a0) a0.length false] (.sc (.int .i64 r)) := by
 rw [R21_Height] at h
 refine RunF.z Try.func12 rfl rfl rfl rfl rfl (fun C hr => ?_)
 refine Stk.gen (fun t H n => t 0 = .ssl (encs c42 a0) a0.length false) (by simp) ?_
 rintro t H n f0
 refine Stk.sq ?_
 refine Stk.rg ?_
 refine Stk.run 1 (fun t H n => t 0 = .ssl (encs c42 a0) a0.length false) (fun J hJ => ?_) ?_
 ·simp [-splice, f0]
  exact hJ _ _ _ (by simp [f0])
 clear f0
 rintro t H n f0
 refine Stk.on ?_
 refine Stk.sq ?_
 refine Stk.rg ?_
 refine Stk.run 1 (fun t H n => t 0 = .ssl (encs c42 a0) a0.length false ∧ t 3 = .sc (.int .i64 0)) (fun J hJ => ?_) ?_
 ·simp [-splice, f0]
  exact hJ _ _ _ ⟨by simp [f0], by simp [-splice, f0]⟩
 clear f0
 rintro t H n ⟨f0, f3⟩
 refine Stk.on ?_
 refine Stk.sq ?_
 refine Stk.sq ?_
 refine Stk.rg ?_
 refine Stk.run 1 (fun t H n => t 0 = .ssl (encs c42 a0) a0.length false ∧ t 3 = .sc (.int .i64 0) ∧ t 4 = .sc (.int .i64 0)) (fun J hJ => ?_) ?_
 ·simp [-splice, f0, f3]
  exact hJ _ _ _ ⟨by simp [f0], by simp [f3], by simp [-splice, f0, f3]⟩
 clear f0 f3
 rintro t H n ⟨f0, f3, f4⟩
 refine Stk.on ?_
 refine Stk.bk ?_
 refine Stk.lo (fun μ t H n => ∃ v1 : Int, ∃ v2 : Int, R21_Height_L0 F a0 μ v1 v2 = some r ∧ t 0 = .ssl (encs c42 a0) a0.length false ∧ t 3 = .sc (.int .i64 v1) ∧ t 4 = .sc (.int .i64 v2)) F ⟨0, 0, h, f0, f3, f4⟩ ?_
 clear h f0 f3 f4
 rintro J1 hJ1 μ t H n ⟨v1, v2, h, f0, f3, f4⟩
 cases μ with
 | zero => exact absurd h (by simp [R21_Height_L0])
 | succ μ =>
 rw [R21_Height_L0] at h
 refine Stk.sq ?_
 refine Stk.sq ?_
 refine Stk.rg ?_
 refine Stk.run 4 (fun t H n => t 0 = .ssl (encs c42 a0) a0.length false ∧ t 3 = .sc (.int .i64 v1) ∧ t 4 = .sc (.int .i64 v2) ∧ t 8 = .sc (.bool (decide (v2 < (a0.length : Int))))) (fun J hJ => ?_) ?_
 ·simp [-splice, f0, f3, f4]
  exact hJ _ _ _ ⟨by simp [f0], by simp [f3], by simp [f4], by simp [-splice, f0, f3, f4]⟩
 clear f0 f3 f4
 rintro t H n ⟨f0, f3, f4, f8⟩
 refine Stk.on ?_
 refine Stk.cond (decide (v2 < (a0.length : Int))) (by exact f8) (fun hb5 => ?_) (fun hb5 => ?_)
 ·have h := cT hb5 h
  refine Stk.sk ?_
  refine Stk.sq ?_
  refine Stk.bk ?_
  refine Stk.rg ?_
  obtain ⟨x6, hx6, h⟩ := bnd h
  obtain ⟨i0x6, i1x6, i2x6, _⟩ := idx_ok hx6
  have ex6_0_42 : partOf T.T 42 (encs c42 a0) (v2.toNat) = some (.ssl (encs c4 x6) x6.length false) := by
    have e0 := part_elem0 (e := c42) (z := 1) (T := T.T) (ty := 42) T.t42 (by decide) (by decide) hx6 0 (by decide)
    (try simp only [Nat.mul_one, Nat.add_zero] at e0)
    exact e0.trans rfl
  refine Stk.run 8 (fun t H n => t 0 = .ssl (encs c42 a0) a0.length false ∧ t 3 = .sc (.int .i64 (if v1 < (x6.length : Int) then (x6.length : Int) else v1)) ∧ t 4 = .sc (.int .i64 v2)) (fun J hJ => ?_) ?_
  ·simp [-splice, f0, f3, f4, f8, i0x6, i1x6, pd42, ex6_0_42]
   exact hJ _ _ _ ⟨by simp [f0], by simp [-splice, f0, f3, f4, f8, i0x6, i1x6, pd42, ex6_0_42], by simp [f4]⟩
  clear f0 f3 f4 f8
  rintro t H n ⟨f0, f3, f4⟩
  refine Stk.on ?_
  refine Stk.bn ?_
  refine Stk.rg ?_
  refine Stk.run 3 (fun t H n => t 0 = .ssl (encs c42 a0) a0.length false ∧ t 3 = .sc (.int .i64 (if v1 < (x6.length : Int) then (x6.length : Int) else v1)) ∧ t 4 = .sc (.int .i64 (IntKind.i64.wrap (v2 + 1)))) (fun J hJ => ?_) ?_
  ·simp [-splice, f0, f3, f4]
   exact hJ _ _ _ ⟨by simp [f0], by simp [f3], by simp [-splice, f0, f3, f4]⟩
  clear f0 f3 f4
  rintro t H n ⟨f0, f3, f4⟩
  refine Stk.on ?_
  exact Stk.ln μ (Nat.lt_succ_self _) (hJ1 _ _ _ _ ⟨(if v1 < (x6.length : Int) then (x6.length : Int) else v1), (IntKind.i64.wrap (v2 + 1)), h, f0, f3, f4⟩)
 ·have h := cF hb5 h
  refine Stk.ex rfl ?_
  refine Stk.sq ?_
  refine Stk.rg ?_
  refine Stk.run 2 (fun t H n => t 2 = .sc (.int .i64 v1)) (fun J hJ => ?_) ?_
  ·simp [-splice, f0, f3, f4, f8]
   exact hJ _ _ _ (by simp [-splice, f0, f3, f4, f8])
  clear f0 f3 f4 f8
  rintro t H n f2
  refine Stk.on ?_
  refine Stk.rt ?_
  have hq := Option.some.inj h; subst hq
  exact (hr _ _ _ (.sc (.int .i64 v1)) ([]) (by simp [f2]) (.inr (.inr (.free (rfl))))).1
theorem ok_L21_FlowTells (F : Nat) (a0 : api_Code) (r : Bool) (h : L21_FlowTells F a0 = some r) : RunF Try.prog T.T 3 [.agg (c26 a0)] (.sc (.bool r)) := by
 rw [L21_FlowTells] at h
 refine RunF.z Try.func3 rfl rfl rfl rfl rfl (fun C hr => ?_)
 refine Stk.gen (fun t H n => t 0 = .agg (c26 a0)) (by simp) ?_
 rintro t H n f0
 refine Stk.sq ?_
 refine Stk.rg ?_
 refine Stk.om (mop_box T.t26 (cs := c26 a0) (by show partOk (t 0) = true; rw [f0]; rfl) (by show cellsOf (t 0) = _; rw [f0]; rfl)) (by simp [f0]) rfl (fun t' ht' => ?_)
 refine Stk.gen (fun t H n => ∃ b1, t 1 = .own b1 0 ∧ H b1 = some (.cells (c26 a0) 26) ∧ b1 < n) ⟨n, by simp [ht'], upd_same _ _ _, Nat.lt_succ_self _⟩ ?_
 clear f0 ht' t'
 rintro t H n ⟨b1, f1, b_b1, l_b1⟩
 refine Stk.run 1 (fun t H n => t 1 = .own b1 0 ∧ H b1 = some (.cells (c26 a0) 26) ∧ b1 < n) (fun J hJ => ?_) ?_
 ·simp [-splice, f1, b_b1]
  exact hJ _ _ _ ⟨by simp [f1], b_b1, l_b1⟩
 clear f1 b_b1 l_b1
 rintro t H n ⟨f1, b_b1, l_b1⟩
 refine Stk.on ?_
 refine Stk.sq ?_
 refine Stk.sq ?_
 refine Stk.rg ?_
 refine Stk.run 1 (fun t H n => t 1 = .own b1 0 ∧ t 9 = .agg (c26 a0) ∧ H b1 = some (.cells (c26 a0) 26) ∧ b1 < n) (fun J hJ => ?_) ?_
 ·simp [-splice, f1, b_b1, ld_26_0_26]
  exact hJ _ _ _ ⟨by simp [f1], by simp [-splice, f1, b_b1, ld_26_0_26], b_b1, l_b1⟩
 clear f1 b_b1 l_b1
 rintro t H n ⟨f1, f9, b_b1, l_b1⟩
 obtain ⟨x2, hx2, h⟩ := bnd h
 refine Stk.cv (g := 6) (args := [.agg (c26 a0), .sc (.int .i64 2000)]) (args' := [.agg (c26 a0), .sc (.int .i64 2000)]) (v := .sc (.bool x2)) [] (ok_R20_Light F _ _ _ hx2) (by simp [f1, f9]) rfl rfl (by simp [f1, f9]) (.cons (.free (fr26 _)) (.cons (.free (rfl)) (.nil))) (.inl ⟨rfl, rfl⟩) (fun t' ht' => ?_)
 refine Stk.gen (fun t H n => t 1 = .own b1 0 ∧ t 10 = .sc (.bool x2) ∧ H b1 = some (.cells (c26 a0) 26) ∧ b1 < n) ⟨by simp [ht', f1], by simp [ht'], b_b1, l_b1⟩ ?_
 clear f1 f9 b_b1 l_b1 ht' t'
 rintro t H n ⟨f1, f10, b_b1, l_b1⟩
 refine Stk.run 1 (fun t H n => t 1 = .own b1 0 ∧ t 11 = .sc (.bool (!x2)) ∧ H b1 = some (.cells (c26 a0) 26) ∧ b1 < n) (fun J hJ => ?_) ?_
 ·simp [-splice, f1, f10, b_b1]
  exact hJ _ _ _ ⟨by simp [f1], by simp [-splice, f1, f10, b_b1], b_b1, l_b1⟩
 clear f1 f10 b_b1 l_b1
 rintro t H n ⟨f1, f11, b_b1, l_b1⟩
 refine Stk.on ?_
 refine Stk.cond (!x2) (by exact f11) (fun hb3 => ?_) (fun hb3 => ?_)
 ·have h := cT hb3 h
  refine Stk.sq ?_
  refine Stk.rg ?_
  obtain ⟨x4, hx4, h⟩ := bnd h
  refine Stk.cv (g := 7) (args := []) (args' := []) (v := .sc (.bool x4)) [] (ok_L21_awake F  _ hx4) (by simp [f1, f11]) rfl rfl (by simp [f1, f11]) (.nil) (.inl ⟨rfl, rfl⟩) (fun t' ht' => ?_)
  refine Stk.gen (fun t H n => t 12 = .sc (.bool x4)) (by simp [ht']) ?_
  clear f1 f11 b_b1 l_b1 ht' t'
  rintro t H n f12
  refine Stk.run 1 (fun t H n => t 2 = .sc (.bool x4)) (fun J hJ => ?_) ?_
  ·simp [-splice, f12]
   exact hJ _ _ _ (by simp [-splice, f12])
  clear f12
  rintro t H n f2
  refine Stk.on ?_
  refine Stk.rt ?_
  have hq := Option.some.inj h; subst hq
  exact (hr _ _ _ (.sc (.bool x4)) ([]) (by simp [f2]) (.inr (.inr (.free (rfl))))).1
 ·have h := cF hb3 h
  refine Stk.sk ?_
  refine Stk.sq ?_
  refine Stk.rg ?_
  refine Stk.run 1 (fun t H n => t 1 = .own b1 0 ∧ t 14 = .agg (c26 a0) ∧ H b1 = some (.cells (c26 a0) 26) ∧ b1 < n) (fun J hJ => ?_) ?_
  ·simp [-splice, f1, f11, b_b1, ld_26_0_26]
   exact hJ _ _ _ ⟨by simp [f1], by simp [-splice, f1, f11, b_b1, ld_26_0_26], b_b1, l_b1⟩
  clear f1 f11 b_b1 l_b1
  rintro t H n ⟨f1, f14, b_b1, l_b1⟩
  obtain ⟨x5, hx5, h⟩ := bnd h
  refine Stk.cv (g := 8) (args := [.agg (c26 a0)]) (args' := [.agg (c26 a0)]) (v := .tup [.ssl (encs c36 x5.1) x5.1.length false, .sc (.int .i64 x5.2)]) [] (ok_flow_Check F _ _ hx5) (by simp [f1, f14]) rfl rfl (by simp [f1, f14]) (.cons (.free (fr26 _)) (.nil)) (.inl ⟨rfl, by simp [free, freeL, freeL_encs fr36]⟩) (fun t' ht' => ?_)
  refine Stk.gen (fun t H n => t 1 = .own b1 0 ∧ t 15 = .tup [.ssl (encs c36 x5.1) x5.1.length false, .sc (.int .i64 x5.2)] ∧ H b1 = some (.cells (c26 a0) 26) ∧ b1 < n) ⟨by simp [ht', f1], by simp [ht'], b_b1, l_b1⟩ ?_
  clear f1 f14 b_b1 l_b1 ht' t'
  rintro t H n ⟨f1, f15, b_b1, l_b1⟩
  refine Stk.run 5 (fun t H n => t 1 = .own b1 0 ∧ t 3 = .ssl (encs c36 x5.1) x5.1.length false ∧ t 4 = .sc (.int .i64 x5.2) ∧ H b1 = some (.cells (c26 a0) 26) ∧ b1 < n) (fun J hJ => ?_) ?_
  ·simp [-splice, f1, f15, b_b1]
   exact hJ _ _ _ ⟨by simp [f1], by simp [-splice, f1, f15, b_b1], by simp [-splice, f1, f15, b_b1], b_b1, l_b1⟩
  clear f1 f15 b_b1 l_b1
  rintro t H n ⟨f1, f3, f4, b_b1, l_b1⟩
  refine Stk.on ?_
  refine Stk.sq ?_
  refine Stk.rg ?_
  refine Stk.run 1 (fun t H n => t 3 = .ssl (encs c36 x5.1) x5.1.length false ∧ t 4 = .sc (.int .i64 x5.2) ∧ t 19 = .agg (c26 a0)) (fun J hJ => ?_) ?_
  ·simp [-splice, f1, f3, f4, b_b1, ld_26_0_26]
   exact hJ _ _ _ ⟨by simp [f3], by simp [f4], by simp [-splice, f1, f3, f4, b_b1, ld_26_0_26]⟩
  clear f1 f3 f4 b_b1 l_b1
  rintro t H n ⟨f3, f4, f19⟩
  obtain ⟨x6, hx6, h⟩ := bnd h
  refine Stk.cv (g := 9) (args := [.agg (c26 a0)]) (args' := [.agg (c26 a0)]) (v := .tup [.ssl (encs c36 x6.1) x6.1.length false, .sc (.int .i64 x6.2)]) [] (ok_R21_Check F _ _ hx6) (by simp [f3, f4, f19]) rfl rfl (by simp [f3, f4, f19]) (.cons (.free (fr26 _)) (.nil)) (.inl ⟨rfl, by simp [free, freeL, freeL_encs fr36]⟩) (fun t' ht' => ?_)
  refine Stk.gen (fun t H n => t 3 = .ssl (encs c36 x5.1) x5.1.length false ∧ t 4 = .sc (.int .i64 x5.2) ∧ t 20 = .tup [.ssl (encs c36 x6.1) x6.1.length false, .sc (.int .i64 x6.2)]) ⟨by simp [ht', f3], by simp [ht', f4], by simp [ht']⟩ ?_
  clear f3 f4 f19 ht' t'
  rintro t H n ⟨f3, f4, f20⟩
  refine Stk.run 5 (fun t H n => t 3 = .ssl (encs c36 x5.1) x5.1.length false ∧ t 4 = .sc (.int .i64 x5.2) ∧ t 5 = .ssl (encs c36 x6.1) x6.1.length false ∧ t 6 = .sc (.int .i64 x6.2)) (fun J hJ => ?_) ?_
  ·simp [-splice, f3, f4, f20]
   exact hJ _ _ _ ⟨by simp [f3], by simp [f4], by simp [-splice, f3, f4, f20], by simp [-splice, f3, f4, f20]⟩
  clear f3 f4 f20
  rintro t H n ⟨f3, f4, f5, f6⟩
  refine Stk.on ?_
  refine Stk.sq ?_
  refine Stk.sq ?_
  refine Stk.rg ?_
  refine Stk.run 2 (fun t H n => t 3 = .ssl (encs c36 x5.1) x5.1.length false ∧ t 4 = .sc (.int .i64 x5.2) ∧ t 6 = .sc (.int .i64 x6.2) ∧ t 23 = .ssl (encs c36 x5.1) x5.1.length false ∧ t 24 = .ssl (encs c36 x6.1) x6.1.length false) (fun J hJ => ?_) ?_
  ·simp [-splice, f3, f4, f5, f6]
   exact hJ _ _ _ ⟨by simp [f3], by simp [f4], by simp [f6], by simp [-splice, f3, f4, f5, f6], by simp [-splice, f3, f4, f5, f6]⟩
  clear f3 f4 f5 f6
  rintro t H n ⟨f3, f4, f6, f23, f24⟩
  obtain ⟨x7, hx7, h⟩ := bnd h
  refine Stk.cv (g := 10) (args := [.ssl (encs c36 x5.1) x5.1.length false, .ssl (encs c36 x6.1) x6.1.length false]) (args' := [.ssl (encs c36 x5.1) x5.1.length false, .ssl (encs c36 x6.1) x6.1.length false]) (v := .sc (.bool x7)) [] (ok_R21_Same F _ _ _ hx7) (by simp [f3, f4, f6, f23, f24]) rfl rfl (by simp [f3, f4, f6, f23, f24]) (.cons (.free (freeL_encs fr36 _)) (.cons (.free (freeL_encs fr36 _)) (.nil))) (.inl ⟨rfl, rfl⟩) (fun t' ht' => ?_)
  refine Stk.gen (fun t H n => t 3 = .ssl (encs c36 x5.1) x5.1.length false ∧ t 4 = .sc (.int .i64 x5.2) ∧ t 6 = .sc (.int .i64 x6.2) ∧ t 25 = .sc (.bool x7)) ⟨by simp [ht', f3], by simp [ht', f4], by simp [ht', f6], by simp [ht']⟩ ?_
  clear f3 f4 f6 f23 f24 ht' t'
  rintro t H n ⟨f3, f4, f6, f25⟩
  refine Stk.run 2 (fun t H n => t 3 = .ssl (encs c36 x5.1) x5.1.length false ∧ t 4 = .sc (.int .i64 x5.2) ∧ t 6 = .sc (.int .i64 x6.2) ∧ t 27 = .sc (.bool (!x7))) (fun J hJ => ?_) ?_
  ·simp [-splice, f3, f4, f6, f25]
   exact hJ _ _ _ ⟨by simp [f3], by simp [f4], by simp [f6], by simp [-splice, f3, f4, f6, f25]⟩
  clear f3 f4 f6 f25
  rintro t H n ⟨f3, f4, f6, f27⟩
  refine Stk.jo 4 (fun t H n => t 3 = .ssl (encs c36 x5.1) x5.1.length false ∧ t 31 = .sc (.bool ((!x7) || (x5.2 != x6.2)))) (fun J1 hJ1 => ?_) ?_
  ·rcases Bool.eq_false_or_eq_true (!x7) with hb1 | hb1
   ·rw [hb1] at f27
    refine Stk.run 4 (fun t H n => t 3 = .ssl (encs c36 x5.1) x5.1.length false ∧ t 31 = .sc (.bool true)) (fun J hJ => ?_) ?_
    ·simp [-splice, f3, f4, f6, f27]
     exact hJ _ _ _ ⟨by simp [f3], by simp [-splice, f3, f4, f6, f27]⟩
    clear f3 f4 f6 f27
    rintro t H n ⟨f3, f31⟩
    refine Stk.on ?_
    exact Stk.ln 0 (by decide) (hJ1 _ _ _ ⟨f3, f31.trans (congrArg (fun q => AV.sc (.bool q)) (by rw [hb1]; rfl))⟩)
   ·rw [hb1] at f27
    refine Stk.run 4 (fun t H n => t 3 = .ssl (encs c36 x5.1) x5.1.length false ∧ t 31 = .sc (.bool (x5.2 != x6.2))) (fun J hJ => ?_) ?_
    ·simp [-splice, f3, f4, f6, f27]
     exact hJ _ _ _ ⟨by simp [f3], by simp [-splice, f3, f4, f6, f27]⟩
    clear f3 f4 f6 f27
    rintro t H n ⟨f3, f31⟩
    refine Stk.on ?_
    exact Stk.ln 0 (by decide) (hJ1 _ _ _ ⟨f3, f31.trans (congrArg (fun q => AV.sc (.bool q)) (by rw [hb1]; rfl))⟩)
  clear f3 f4 f6 f27
  rintro t H n ⟨f3, f31⟩
  refine Stk.on ?_
  refine Stk.cond ((!x7) || (x5.2 != x6.2)) (by exact f31) (fun hb8 => ?_) (fun hb8 => ?_)
  ·have h := cT hb8 h
   refine Stk.sq ?_
   refine Stk.rg ?_
   refine Stk.run 1 (fun t H n => t 2 = .sc (.bool false)) (fun J hJ => ?_) ?_
   ·simp [-splice, f3, f31]
    exact hJ _ _ _ (by simp [-splice, f3, f31])
   clear f3 f31
   rintro t H n f2
   refine Stk.on ?_
   refine Stk.rt ?_
   have hq := Option.some.inj h; subst hq
   exact (hr _ _ _ (.sc (.bool false)) ([]) (by simp [f2]) (.inr (.inr (.free (rfl))))).1
  ·have h := cF hb8 h
   refine Stk.sk ?_
   refine Stk.sq ?_
   refine Stk.sq ?_
   refine Stk.rg ?_
   refine Stk.run 3 (fun t H n => t 32 = .ssl (encs c36 x5.1) x5.1.length false ∧ t 33 = .sc (.int .i64 (x5.1.length : Int)) ∧ t 34 = .sc (.int .i64 0)) (fun J hJ => ?_) ?_
   ·simp [-splice, f3, f31]
    exact hJ _ _ _ ⟨by simp [-splice, f3, f31], by simp [-splice, f3, f31], by simp [-splice, f3, f31]⟩
   clear f3 f31
   rintro t H n ⟨f32, f33, f34⟩
   refine Stk.on ?_
   refine Stk.bk ?_
   refine Stk.lo (fun μ t H n => ∃ v9 : Int, L21_FlowTells_L0 F x5 μ v9 = some r ∧ t 32 = .ssl (encs c36 x5.1) x5.1.length false ∧ t 33 = .sc (.int .i64 (x5.1.length : Int)) ∧ t 34 = .sc (.int .i64 v9)) F ⟨0, h, f32, f33, f34⟩ ?_
   clear h f32 f33 f34
   rintro J2 hJ2 μ t H n ⟨v9, h, f32, f33, f34⟩
   cases μ with
   | zero => exact absurd h (by simp [L21_FlowTells_L0])
   | succ μ =>
   rw [L21_FlowTells_L0] at h
   refine Stk.sq ?_
   refine Stk.rg ?_
   refine Stk.run 1 (fun t H n => t 32 = .ssl (encs c36 x5.1) x5.1.length false ∧ t 33 = .sc (.int .i64 (x5.1.length : Int)) ∧ t 34 = .sc (.int .i64 v9) ∧ t 35 = .sc (.bool (decide (v9 < (x5.1.length : Int))))) (fun J hJ => ?_) ?_
   ·simp [-splice, f32, f33, f34]
    exact hJ _ _ _ ⟨by simp [f32], by simp [f33], by simp [f34], by simp [-splice, f32, f33, f34]⟩
   clear f32 f33 f34
   rintro t H n ⟨f32, f33, f34, f35⟩
   refine Stk.on ?_
   refine Stk.sq ?_
   refine Stk.cond (decide (v9 < (x5.1.length : Int))) (by exact f35) (fun hb11 => ?_) (fun hb11 => ?_)
   ·have h := cT hb11 h
    refine Stk.sk ?_
    refine Stk.sq ?_
    refine Stk.bk ?_
    refine Stk.sq ?_
    refine Stk.rg ?_
    obtain ⟨x12, hx12, h⟩ := bnd h
    obtain ⟨i0x12, i1x12, i2x12, _⟩ := idx_ok hx12
    have ex12_0_36 : partOf T.T 36 (encs c36 x5.1) (v9.toNat) = some (.ssl (encs c42 x12) x12.length false) := by
      have e0 := part_elem0 (e := c36) (z := 1) (T := T.T) (ty := 36) T.t36 (by decide) (by decide) hx12 0 (by decide)
      (try simp only [Nat.mul_one, Nat.add_zero] at e0)
      exact e0.trans rfl
    refine Stk.run 3 (fun t H n => t 8 = .ssl (encs c42 x12) x12.length false ∧ t 32 = .ssl (encs c36 x5.1) x5.1.length false ∧ t 33 = .sc (.int .i64 (x5.1.length : Int)) ∧ t 34 = .sc (.int .i64 v9)) (fun J hJ => ?_) ?_
    ·simp [-splice, f32, f33, f34, f35, i0x12, i1x12, pd36, ex12_0_36]
     exact hJ _ _ _ ⟨by simp [-splice, f32, f33, f34, f35, i0x12, i1x12, pd36, ex12_0_36], by simp [f32], by simp [f33], by simp [f34]⟩
    clear f32 f33 f34 f35
    rintro t H n ⟨f8, f32, f33, f34⟩
    refine Stk.on ?_
    refine Stk.sq ?_
    refine Stk.rg ?_
    refine Stk.run 1 (fun t H n => t 8 = .ssl (encs c42 x12) x12.length false ∧ t 32 = .ssl (encs c36 x5.1) x5.1.length false ∧ t 33 = .sc (.int .i64 (x5.1.length : Int)) ∧ t 34 = .sc (.int .i64 v9) ∧ t 38 = .ssl (encs c42 x12) x12.length false) (fun J hJ => ?_) ?_
    ·simp [-splice, f8, f32, f33, f34]
     exact hJ _ _ _ ⟨by simp [f8], by simp [f32], by simp [f33], by simp [f34], by simp [-splice, f8, f32, f33, f34]⟩
    clear f8 f32 f33 f34
    rintro t H n ⟨f8, f32, f33, f34, f38⟩
    obtain ⟨x13, hx13, h⟩ := bnd h
    refine Stk.cv (g := 11) (args := [.ssl (encs c42 x12) x12.length false]) (args' := [.ssl (encs c42 x12) x12.length false]) (v := .sc (.int .i64 x13)) [] (ok_flow_Height F _ _ hx13) (by simp [f8, f32, f33, f34, f38]) rfl rfl (by simp [f8, f32, f33, f34, f38]) (.cons (.free (freeL_encs fr42 _)) (.nil)) (.inl ⟨rfl, rfl⟩) (fun t' ht' => ?_)
    refine Stk.gen (fun t H n => t 8 = .ssl (encs c42 x12) x12.length false ∧ t 32 = .ssl (encs c36 x5.1) x5.1.length false ∧ t 33 = .sc (.int .i64 (x5.1.length : Int)) ∧ t 34 = .sc (.int .i64 v9) ∧ t 39 = .sc (.int .i64 x13)) ⟨by simp [ht', f8], by simp [ht', f32], by simp [ht', f33], by simp [ht', f34], by simp [ht']⟩ ?_
    clear f8 f32 f33 f34 f38 ht' t'
    rintro t H n ⟨f8, f32, f33, f34, f39⟩
    refine Stk.run 1 (fun t H n => t 32 = .ssl (encs c36 x5.1) x5.1.length false ∧ t 33 = .sc (.int .i64 (x5.1.length : Int)) ∧ t 34 = .sc (.int .i64 v9) ∧ t 39 = .sc (.int .i64 x13) ∧ t 40 = .ssl (encs c42 x12) x12.length false) (fun J hJ => ?_) ?_
    ·simp [-splice, f8, f32, f33, f34, f39]
     exact hJ _ _ _ ⟨by simp [f32], by simp [f33], by simp [f34], by simp [f39], by simp [-splice, f8, f32, f33, f34, f39]⟩
    clear f8 f32 f33 f34 f39
    rintro t H n ⟨f32, f33, f34, f39, f40⟩
    obtain ⟨x14, hx14, h⟩ := bnd h
    refine Stk.cv (g := 12) (args := [.ssl (encs c42 x12) x12.length false]) (args' := [.ssl (encs c42 x12) x12.length false]) (v := .sc (.int .i64 x14)) [] (ok_R21_Height F _ _ hx14) (by simp [f32, f33, f34, f39, f40]) rfl rfl (by simp [f32, f33, f34, f39, f40]) (.cons (.free (freeL_encs fr42 _)) (.nil)) (.inl ⟨rfl, rfl⟩) (fun t' ht' => ?_)
    refine Stk.gen (fun t H n => t 32 = .ssl (encs c36 x5.1) x5.1.length false ∧ t 33 = .sc (.int .i64 (x5.1.length : Int)) ∧ t 34 = .sc (.int .i64 v9) ∧ t 39 = .sc (.int .i64 x13) ∧ t 41 = .sc (.int .i64 x14)) ⟨by simp [ht', f32], by simp [ht', f33], by simp [ht', f34], by simp [ht', f39], by simp [ht']⟩ ?_
    clear f32 f33 f34 f39 f40 ht' t'
    rintro t H n ⟨f32, f33, f34, f39, f41⟩
    refine Stk.run 1 (fun t H n => t 32 = .ssl (encs c36 x5.1) x5.1.length false ∧ t 33 = .sc (.int .i64 (x5.1.length : Int)) ∧ t 34 = .sc (.int .i64 v9) ∧ t 42 = .sc (.bool (x13 != x14))) (fun J hJ => ?_) ?_
    ·simp [-splice, f32, f33, f34, f39, f41]
     exact hJ _ _ _ ⟨by simp [f32], by simp [f33], by simp [f34], by simp [-splice, f32, f33, f34, f39, f41]⟩
    clear f32 f33 f34 f39 f41
    rintro t H n ⟨f32, f33, f34, f42⟩
    refine Stk.on ?_
    refine Stk.cond (x13 != x14) (by exact f42) (fun hb15 => ?_) (fun hb15 => ?_)
    ·have h := cT hb15 h
     refine Stk.sq ?_
     refine Stk.rg ?_
     refine Stk.run 1 (fun t H n => t 2 = .sc (.bool false)) (fun J hJ => ?_) ?_
     ·simp [-splice, f32, f33, f34, f42]
      exact hJ _ _ _ (by simp [-splice, f32, f33, f34, f42])
     clear f32 f33 f34 f42
     rintro t H n f2
     refine Stk.on ?_
     refine Stk.rt ?_
     have hq := Option.some.inj h; subst hq
     exact (hr _ _ _ (.sc (.bool false)) ([]) (by simp [f2]) (.inr (.inr (.free (rfl))))).1
    ·have h := cF hb15 h
     refine Stk.sk ?_
     refine Stk.bn ?_
     refine Stk.rg ?_
     refine Stk.run 2 (fun t H n => t 32 = .ssl (encs c36 x5.1) x5.1.length false ∧ t 33 = .sc (.int .i64 (x5.1.length : Int)) ∧ t 34 = .sc (.int .i64 (IntKind.i64.wrap (v9 + 1)))) (fun J hJ => ?_) ?_
     ·simp [-splice, f32, f33, f34, f42]
      exact hJ _ _ _ ⟨by simp [f32], by simp [f33], by simp [-splice, f32, f33, f34, f42]⟩
     clear f32 f33 f34 f42
     rintro t H n ⟨f32, f33, f34⟩
     refine Stk.on ?_
     exact Stk.ln μ (Nat.lt_succ_self _) (hJ2 _ _ _ _ ⟨(IntKind.i64.wrap (v9 + 1)), h, f32, f33, f34⟩)
   ·have h := cF hb11 h
    refine Stk.ex rfl ?_
    refine Stk.sq ?_
    refine Stk.rg ?_
    obtain ⟨x16, hx16, h⟩ := bnd h
    refine Stk.cv (g := 7) (args := []) (args' := []) (v := .sc (.bool x16)) [] (ok_L21_awake F  _ hx16) (by simp [f32, f33, f34, f35]) rfl rfl (by simp [f32, f33, f34, f35]) (.nil) (.inl ⟨rfl, rfl⟩) (fun t' ht' => ?_)
    refine Stk.gen (fun t H n => t 44 = .sc (.bool x16)) (by simp [ht']) ?_
    clear f32 f33 f34 f35 ht' t'
    rintro t H n f44
    refine Stk.run 1 (fun t H n => t 2 = .sc (.bool x16)) (fun J hJ => ?_) ?_
    ·simp [-splice, f44]
     exact hJ _ _ _ (by simp [-splice, f44])
    clear f44
    rintro t H n f2
    refine Stk.on ?_
    refine Stk.rt ?_
    have hq := Option.some.inj h; subst hq
    exact (hr _ _ _ (.sc (.bool x16)) ([]) (by simp [f2]) (.inr (.inr (.free (rfl))))).1
end Go.Proofs.Ytcdafogfmijcpaa.M
