/-
  The functions come to them.
-/
import Derived.Test.YtfflojbgikfbmaaHrM
namespace Go.Proofs.Ytfflojbgikfbmaa.M
open Go.Proofs.YtfflojbgikfbmaaW.Ah Go.Proofs.Ytfflojbgikfbmaa
set_option linter.unusedVariables false
set_option linter.unusedSimpArgs false
set_option maxRecDepth 8000
attribute [local simp] T.t3 T.t4 T.t34 T.t39 T.t40 T.t70 T.t93 T.t108 T.t176 List.range List.range.loop
attribute [-simp] appendAV fillAV
theorem ok_R01_At (F : Nat) (a0 : Int) (r : (Int × Bool)) (h : R01_At F a0 = some r) : RunF Try.prog T.T 147 [.sc (.int .u64 a0)] (.tup [.sc (.int .u32 r.1), .sc (.bool r.2)]) := by
  rw [R01_At] at h
  refine RunF.z Try.func147 rfl rfl rfl rfl rfl (fun C hr => ?_)
  refine Stk.gen (fun t H n => t 0 = .sc (.int .u64 a0)) (by simp) ?_
  rintro t H n f0
  refine Stk.sq ?_
  refine Stk.rg ?_
  refine Stk.run 2 (fun t H n => t 0 = .sc (.int .u64 a0)) (fun J hJ => ?_) ?_
  · simp [-splice, f0]
    exact hJ _ _ _ (by simp [f0])
  clear f0
  rintro t H n f0
  refine Stk.on ?_
  refine Stk.sq ?_
  refine Stk.sq ?_
  refine Stk.rg ?_
  refine Stk.run 4 (fun t H n => t 0 = .sc (.int .u64 a0) ∧ t 7 = .sc (.bool ((a0.tmod 2) == 1))) (fun J hJ => ?_) ?_
  · simp [-splice, f0]
    exact hJ _ _ _ ⟨by simp [f0], by simp [-splice, f0]⟩
  clear f0
  rintro t H n ⟨f0, f7⟩
  refine Stk.jo 3 (fun t H n => t 0 = .sc (.int .u64 a0) ∧ t 10 = .sc (.bool (((a0.tmod 2) == 1) || (a0 == 0)))) (fun J1 hJ1 => ?_) ?_
  · rcases Bool.eq_false_or_eq_true ((a0.tmod 2) == 1) with hb1 | hb1
    · rw [hb1] at f7
      refine Stk.run 3 (fun t H n => t 0 = .sc (.int .u64 a0) ∧ t 10 = .sc (.bool true)) (fun J hJ => ?_) ?_
      · simp [-splice, f0, f7]
        exact hJ _ _ _ ⟨by simp [f0], by simp [-splice, f0, f7]⟩
      clear f0 f7
      rintro t H n ⟨f0, f10⟩
      refine Stk.on ?_
      exact Stk.ln 0 (by decide) (hJ1 _ _ _ ⟨f0, f10.trans (congrArg (fun q => AV.sc (.bool q)) (by rw [hb1]; rfl))⟩)
    · rw [hb1] at f7
      refine Stk.run 3 (fun t H n => t 0 = .sc (.int .u64 a0) ∧ t 10 = .sc (.bool (a0 == 0))) (fun J hJ => ?_) ?_
      · simp [-splice, f0, f7]
        exact hJ _ _ _ ⟨by simp [f0], by simp [-splice, f0, f7]⟩
      clear f0 f7
      rintro t H n ⟨f0, f10⟩
      refine Stk.on ?_
      exact Stk.ln 0 (by decide) (hJ1 _ _ _ ⟨f0, f10.trans (congrArg (fun q => AV.sc (.bool q)) (by rw [hb1]; rfl))⟩)
  clear f0 f7
  rintro t H n ⟨f0, f10⟩
  refine Stk.run 1 (fun t H n => t 0 = .sc (.int .u64 a0) ∧ t 11 = .sc (.bool (((a0.tmod 2) == 1) || (a0 == 0)))) (fun J hJ => ?_) ?_
  · simp [-splice, f0, f10]
    exact hJ _ _ _ ⟨by simp [f0], by simp [-splice, f0, f10]⟩
  clear f0 f10
  rintro t H n ⟨f0, f11⟩
  refine Stk.jo 3 (fun t H n => t 0 = .sc (.int .u64 a0) ∧ t 14 = .sc (.bool ((((a0.tmod 2) == 1) || (a0 == 0)) || (decide (8589934592 ≤ a0))))) (fun J2 hJ2 => ?_) ?_
  · rcases Bool.eq_false_or_eq_true (((a0.tmod 2) == 1) || (a0 == 0)) with hb2 | hb2
    · rw [hb2] at f11
      refine Stk.run 3 (fun t H n => t 0 = .sc (.int .u64 a0) ∧ t 14 = .sc (.bool true)) (fun J hJ => ?_) ?_
      · simp [-splice, f0, f11]
        exact hJ _ _ _ ⟨by simp [f0], by simp [-splice, f0, f11]⟩
      clear f0 f11
      rintro t H n ⟨f0, f14⟩
      refine Stk.on ?_
      exact Stk.ln 0 (by decide) (hJ2 _ _ _ ⟨f0, f14.trans (congrArg (fun q => AV.sc (.bool q)) (by rw [hb2]; rfl))⟩)
    · rw [hb2] at f11
      refine Stk.run 3 (fun t H n => t 0 = .sc (.int .u64 a0) ∧ t 14 = .sc (.bool (decide (8589934592 ≤ a0)))) (fun J hJ => ?_) ?_
      · simp [-splice, f0, f11]
        exact hJ _ _ _ ⟨by simp [f0], by simp [-splice, f0, f11]⟩
      clear f0 f11
      rintro t H n ⟨f0, f14⟩
      refine Stk.on ?_
      exact Stk.ln 0 (by decide) (hJ2 _ _ _ ⟨f0, f14.trans (congrArg (fun q => AV.sc (.bool q)) (by rw [hb2]; rfl))⟩)
  clear f0 f11
  rintro t H n ⟨f0, f14⟩
  refine Stk.on ?_
  refine Stk.cond ((((a0.tmod 2) == 1) || (a0 == 0)) || (decide (8589934592 ≤ a0))) (by exact f14) (fun hb1 => ?_) (fun hb1 => ?_)
  · have h := cT hb1 h
    refine Stk.sq ?_
    refine Stk.rg ?_
    refine Stk.run 2 (fun t H n => t 2 = .sc (.int .u32 0) ∧ t 3 = .sc (.bool false)) (fun J hJ => ?_) ?_
    · simp [-splice, f0, f14]
      exact hJ _ _ _ ⟨by simp [-splice, f0, f14], by simp [-splice, f0, f14]⟩
    clear f0 f14
    rintro t H n ⟨f2, f3⟩
    refine Stk.on ?_
    refine Stk.rt ?_
    have hq := Option.some.inj h; subst hq
    exact (hr _ _ _ (.tup [.sc (.int .u32 0), .sc (.bool false)]) ([]) (by simp [f2, f3]) (.inr (.inr (.tup (.cons (.free (rfl)) (.cons (.free (rfl)) (.nil))))))).1
  · have h := cF hb1 h
    refine Stk.sk ?_
    refine Stk.sq ?_
    refine Stk.rg ?_
    refine Stk.run 5 (fun t H n => t 2 = .sc (.int .u32 (IntKind.u32.wrap (IntKind.u64.wrap (a0.tdiv 2)))) ∧ t 3 = .sc (.bool true)) (fun J hJ => ?_) ?_
    · simp [-splice, f0, f14]
      exact hJ _ _ _ ⟨by simp [-splice, f0, f14], by simp [-splice, f0, f14]⟩
    clear f0 f14
    rintro t H n ⟨f2, f3⟩
    refine Stk.on ?_
    refine Stk.rt ?_
    have hq := Option.some.inj h; subst hq
    exact (hr _ _ _ (.tup [.sc (.int .u32 (IntKind.u32.wrap (IntKind.u64.wrap (a0.tdiv 2)))), .sc (.bool true)]) ([]) (by simp [f2, f3]) (.inr (.inr (.tup (.cons (.free (rfl)) (.cons (.free (rfl)) (.nil))))))).1
theorem ok_R16_Heap_left (F : Nat) (a0 : handloomref16_Heap) (a1 : Int) (r : (Int × Int)) (h : R16_Heap_left F a0 a1 = some r) : RunF Try.prog T.T 152 [.sh (c176 a0), .sc (.int .u64 a1)] (.tup [.sc (.int .i64 r.1), .sc (.int .i64 r.2)]) := by
  rw [R16_Heap_left] at h
  refine RunF.z Try.func152 rfl rfl rfl rfl rfl (fun C hr => ?_)
  refine Stk.gen (fun t H n => t 0 = .sh (c176 a0) ∧ t 1 = .sc (.int .u64 a1)) ⟨by simp, by simp⟩ ?_
  rintro t H n ⟨f0, f1⟩
  refine Stk.sq ?_
  refine Stk.rg ?_
  refine Stk.run 2 (fun t H n => t 0 = .sh (c176 a0) ∧ t 1 = .sc (.int .u64 a1)) (fun J hJ => ?_) ?_
  · simp [-splice, f0, f1]
    exact hJ _ _ _ ⟨by simp [f0], by simp [f1]⟩
  clear f0 f1
  rintro t H n ⟨f0, f1⟩
  refine Stk.on ?_
  refine Stk.sq ?_
  refine Stk.rg ?_
  refine Stk.run 1 (fun t H n => t 0 = .sh (c176 a0) ∧ t 10 = .sc (.int .u64 a1)) (fun J hJ => ?_) ?_
  · simp [-splice, f0, f1]
    exact hJ _ _ _ ⟨by simp [f0], by simp [-splice, f0, f1]⟩
  clear f0 f1
  rintro t H n ⟨f0, f10⟩
  obtain ⟨x1, hx1, h⟩ := bnd h
  refine Stk.cv (g := 147) (args := [.sc (.int .u64 a1)]) (args' := [.sc (.int .u64 a1)]) (v := .tup [.sc (.int .u32 x1.1), .sc (.bool x1.2)]) [] (ok_R01_At F _ _ hx1) (by simp [f0, f10]) rfl rfl (by simp [f0, f10]) (.cons (.free (rfl)) (.nil)) (.inl ⟨rfl, by simp [free, freeL]⟩) (fun t' ht' => ?_)
  refine Stk.gen (fun t H n => t 0 = .sh (c176 a0) ∧ t 11 = .tup [.sc (.int .u32 x1.1), .sc (.bool x1.2)]) ⟨by simp [ht', f0], by simp [ht']⟩ ?_
  clear f0 f10 ht' t'
  rintro t H n ⟨f0, f11⟩
  refine Stk.run 5 (fun t H n => t 0 = .sh (c176 a0) ∧ t 6 = .sc (.int .u32 x1.1) ∧ t 7 = .sc (.bool x1.2)) (fun J hJ => ?_) ?_
  · simp [-splice, f0, f11]
    exact hJ _ _ _ ⟨by simp [f0], by simp [-splice, f0, f11], by simp [-splice, f0, f11]⟩
  clear f0 f11
  rintro t H n ⟨f0, f6, f7⟩
  refine Stk.on ?_
  refine Stk.sq ?_
  refine Stk.rg ?_
  refine Stk.run 3 (fun t H n => t 0 = .sh (c176 a0) ∧ t 7 = .sc (.bool x1.2) ∧ t 8 = .sc (.int .i64 (IntKind.i64.wrap x1.1))) (fun J hJ => ?_) ?_
  · simp [-splice, f0, f6, f7]
    exact hJ _ _ _ ⟨by simp [f0], by simp [f7], by simp [-splice, f0, f6, f7]⟩
  clear f0 f6 f7
  rintro t H n ⟨f0, f7, f8⟩
  refine Stk.on ?_
  refine Stk.sq ?_
  refine Stk.sq ?_
  refine Stk.rg ?_
  refine Stk.run 3 (fun t H n => t 0 = .sh (c176 a0) ∧ t 8 = .sc (.int .i64 (IntKind.i64.wrap x1.1)) ∧ t 18 = .sc (.bool (!x1.2))) (fun J hJ => ?_) ?_
  · simp [-splice, f0, f7, f8]
    exact hJ _ _ _ ⟨by simp [f0], by simp [f8], by simp [-splice, f0, f7, f8]⟩
  clear f0 f7 f8
  rintro t H n ⟨f0, f8, f18⟩
  refine Stk.jo 9 (fun t H n => t 0 = .sh (c176 a0) ∧ t 8 = .sc (.int .i64 (IntKind.i64.wrap x1.1)) ∧ t 27 = .sc (.bool ((!x1.2) || (decide ((IntKind.i64.wrap (2 * a0.H.Half)) < (IntKind.i64.wrap x1.1)))))) (fun J1 hJ1 => ?_) ?_
  · rcases Bool.eq_false_or_eq_true (!x1.2) with hb1 | hb1
    · rw [hb1] at f18
      refine Stk.run 9 (fun t H n => t 0 = .sh (c176 a0) ∧ t 8 = .sc (.int .i64 (IntKind.i64.wrap x1.1)) ∧ t 27 = .sc (.bool true)) (fun J hJ => ?_) ?_
      · simp [-splice, f0, f8, f18]
        exact hJ _ _ _ ⟨by simp [f0], by simp [f8], by simp [-splice, f0, f8, f18]⟩
      clear f0 f8 f18
      rintro t H n ⟨f0, f8, f27⟩
      refine Stk.on ?_
      exact Stk.ln 0 (by decide) (hJ1 _ _ _ ⟨f0, f8, f27.trans (congrArg (fun q => AV.sc (.bool q)) (by rw [hb1]; rfl))⟩)
    · rw [hb1] at f18
      refine Stk.run 9 (fun t H n => t 0 = .sh (c176 a0) ∧ t 8 = .sc (.int .i64 (IntKind.i64.wrap x1.1)) ∧ t 27 = .sc (.bool (decide ((IntKind.i64.wrap (2 * a0.H.Half)) < (IntKind.i64.wrap x1.1))))) (fun J hJ => ?_) ?_
      · simp [-splice, f0, f8, f18, pd3, ld_176_1_3]
        exact hJ _ _ _ ⟨by simp [f0], by simp [f8], by simp [-splice, f0, f8, f18, pd3, ld_176_1_3]⟩
      clear f0 f8 f18
      rintro t H n ⟨f0, f8, f27⟩
      refine Stk.on ?_
      exact Stk.ln 0 (by decide) (hJ1 _ _ _ ⟨f0, f8, f27.trans (congrArg (fun q => AV.sc (.bool q)) (by rw [hb1]; rfl))⟩)
  clear f0 f8 f18
  rintro t H n ⟨f0, f8, f27⟩
  refine Stk.on ?_
  refine Stk.cond ((!x1.2) || (decide ((IntKind.i64.wrap (2 * a0.H.Half)) < (IntKind.i64.wrap x1.1)))) (by exact f27) (fun hb2 => ?_) (fun hb2 => ?_)
  · have h := cT hb2 h
    refine Stk.sq ?_
    refine Stk.rg ?_
    refine Stk.run 2 (fun t H n => t 4 = .sc (.int .i64 0) ∧ t 5 = .sc (.int .i64 0)) (fun J hJ => ?_) ?_
    · simp [-splice, f0, f8, f27]
      exact hJ _ _ _ ⟨by simp [-splice, f0, f8, f27], by simp [-splice, f0, f8, f27]⟩
    clear f0 f8 f27
    rintro t H n ⟨f4, f5⟩
    refine Stk.on ?_
    refine Stk.rt ?_
    have hq := Option.some.inj h; subst hq
    exact (hr _ _ _ (.tup [.sc (.int .i64 0), .sc (.int .i64 0)]) ([]) (by simp [f4, f5]) (.inr (.inr (.tup (.cons (.free (rfl)) (.cons (.free (rfl)) (.nil))))))).1
  · have h := cF hb2 h
    refine Stk.sk ?_
    refine Stk.sq ?_
    refine Stk.sq ?_
    refine Stk.rg ?_
    refine Stk.run 7 (fun t H n => t 0 = .sh (c176 a0) ∧ t 8 = .sc (.int .i64 (IntKind.i64.wrap x1.1)) ∧ t 34 = .sc (.bool (decide ((IntKind.i64.wrap x1.1) ≤ a0.H.Half)))) (fun J hJ => ?_) ?_
    · simp [-splice, f0, f8, f27, pd3, ld_176_1_3]
      exact hJ _ _ _ ⟨by simp [f0], by simp [f8], by simp [-splice, f0, f8, f27, pd3, ld_176_1_3]⟩
    clear f0 f8 f27
    rintro t H n ⟨f0, f8, f34⟩
    refine Stk.on ?_
    refine Stk.cond (decide ((IntKind.i64.wrap x1.1) ≤ a0.H.Half)) (by exact f34) (fun hb3 => ?_) (fun hb3 => ?_)
    · have h := cT hb3 h
      refine Stk.sq ?_
      obtain ⟨n0, hn0⟩ : ∃ m, m = n := ⟨n, rfl⟩
      have ln0 : n0 ≤ n := Nat.le_of_eq hn0
      refine Stk.rgD [.rd [], .rd [], .rd [], .rd [], .rd [], .rd [], .rd [], .rd [], .rd [], .rd [], .rd []] none (by kernel_rfl) (by rfl) rfl (by simp [below]) rfl ?_
      refine Stk.runD 11 (fun t H n => t 4 = .sc (.int .i64 (IntKind.i64.wrap x1.1)) ∧ t 5 = .sc (.int .i64 (IntKind.i64.wrap ((IntKind.i64.wrap (a0.H.Half + 1)) - (IntKind.i64.wrap x1.1)))) ∧ n0 ≤ n) (fun J hJ => ?_) ?_
      · simp [-splice, f0, f8, f34, pd3, ld_176_1_3]
        exact hJ _ _ _ ⟨by simp [-splice, f0, f8, f34, pd3, ld_176_1_3], by simp [-splice, f0, f8, f34, pd3, ld_176_1_3], ln0⟩
      clear f0 f8 f34 ln0
      rintro t H n ⟨f4, f5, ln0⟩
      refine Stk.onD ?_
      refine Stk.rt ?_
      have hq := Option.some.inj h; subst hq
      exact (hr _ _ _ (.tup [.sc (.int .i64 (IntKind.i64.wrap x1.1)), .sc (.int .i64 (IntKind.i64.wrap ((IntKind.i64.wrap (a0.H.Half + 1)) - (IntKind.i64.wrap x1.1))))]) ([]) (by simp [f4, f5]) (.inr (.inr (.tup (.cons (.free (rfl)) (.cons (.free (rfl)) (.nil))))))).1
    · have h := cF hb3 h
      refine Stk.sk ?_
      refine Stk.sq ?_
      obtain ⟨n0, hn0⟩ : ∃ m, m = n := ⟨n, rfl⟩
      have ln0 : n0 ≤ n := Nat.le_of_eq hn0
      refine Stk.rgD [.rd [], .rd [], .rd [], .rd [], .rd [], .rd [], .rd [], .rd [], .rd [], .rd [], .rd [], .rd []] none (by kernel_rfl) (by rfl) rfl (by simp [below]) rfl ?_
      refine Stk.runD 12 (fun t H n => t 4 = .sc (.int .i64 (IntKind.i64.wrap x1.1)) ∧ t 5 = .sc (.int .i64 (IntKind.i64.wrap ((IntKind.i64.wrap ((IntKind.i64.wrap (2 * a0.H.Half)) + 1)) - (IntKind.i64.wrap x1.1)))) ∧ n0 ≤ n) (fun J hJ => ?_) ?_
      · simp [-splice, f0, f8, f34, pd3, ld_176_1_3]
        exact hJ _ _ _ ⟨by simp [-splice, f0, f8, f34, pd3, ld_176_1_3], by simp [-splice, f0, f8, f34, pd3, ld_176_1_3], ln0⟩
      clear f0 f8 f34 ln0
      rintro t H n ⟨f4, f5, ln0⟩
      refine Stk.onD ?_
      refine Stk.rt ?_
      have hq := Option.some.inj h; subst hq
      exact (hr _ _ _ (.tup [.sc (.int .i64 (IntKind.i64.wrap x1.1)), .sc (.int .i64 (IntKind.i64.wrap ((IntKind.i64.wrap ((IntKind.i64.wrap (2 * a0.H.Half)) + 1)) - (IntKind.i64.wrap x1.1))))]) ([]) (by simp [f4, f5]) (.inr (.inr (.tup (.cons (.free (rfl)) (.cons (.free (rfl)) (.nil))))))).1
theorem ok_R16_can (F : Nat) (a0 : api_Head) (r : Bool) (h : R16_can F a0 = some r) : RunF Try.prog T.T 92 [.agg (c34 a0)] (.sc (.bool r)) := by
  rw [R16_can] at h
  refine RunF.z Try.func92 rfl rfl rfl rfl rfl (fun C hr => ?_)
  refine Stk.gen (fun t H n => t 0 = .agg (c34 a0)) (by simp) ?_
  rintro t H n f0
  refine Stk.sq ?_
  refine Stk.rg ?_
  refine Stk.om (mop_box T.t34 (cs := c34 a0) (by show partOk (t 0) = true; rw [f0]; rfl) (by show cellsOf (t 0) = _; rw [f0]; rfl)) (by simp [f0]) rfl (fun t' ht' => ?_)
  refine Stk.gen (fun t H n => ∃ b1, t 1 = .own b1 0 ∧ H b1 = some (.cells (c34 a0) 34) ∧ b1 < n) ⟨n, by simp [ht'], upd_same _ _ _, Nat.lt_succ_self _⟩ ?_
  clear f0 ht' t'
  rintro t H n ⟨b1, f1, b_b1, l_b1⟩
  refine Stk.run 1 (fun t H n => t 1 = .own b1 0 ∧ H b1 = some (.cells (c34 a0) 34) ∧ b1 < n) (fun J hJ => ?_) ?_
  · simp [-splice, f1, b_b1]
    exact hJ _ _ _ ⟨by simp [f1], b_b1, l_b1⟩
  clear f1 b_b1 l_b1
  rintro t H n ⟨f1, b_b1, l_b1⟩
  refine Stk.on ?_
  refine Stk.sq ?_
  refine Stk.sq ?_
  refine Stk.rg ?_
  refine Stk.run 3 (fun t H n => t 1 = .own b1 0 ∧ t 5 = .sc (.bool (a0.Kind == 1)) ∧ H b1 = some (.cells (c34 a0) 34) ∧ b1 < n) (fun J hJ => ?_) ?_
  · simp [-splice, f1, b_b1, ld_34_0_3]
    exact hJ _ _ _ ⟨by simp [f1], by simp [-splice, f1, b_b1, ld_34_0_3], b_b1, l_b1⟩
  clear f1 b_b1 l_b1
  rintro t H n ⟨f1, f5, b_b1, l_b1⟩
  refine Stk.on ?_
  refine Stk.cond (a0.Kind == 1) (by exact f5) (fun hb2 => ?_) (fun hb2 => ?_)
  · have h := cT hb2 h
    refine Stk.sq ?_
    refine Stk.rg ?_
    refine Stk.run 4 (fun t H n => t 1 = .own b1 0 ∧ t 9 = .sc (.bool (a0.Tag == 0)) ∧ H b1 = some (.cells (c34 a0) 34) ∧ b1 < n) (fun J hJ => ?_) ?_
    · simp [-splice, f1, f5, b_b1, ld_34_1_3]
      exact hJ _ _ _ ⟨by simp [f1], by simp [-splice, f1, f5, b_b1, ld_34_1_3], b_b1, l_b1⟩
    clear f1 f5 b_b1 l_b1
    rintro t H n ⟨f1, f9, b_b1, l_b1⟩
    refine Stk.jo 4 (fun t H n => t 1 = .own b1 0 ∧ t 13 = .sc (.bool ((a0.Tag == 0) && (decide (0 ≤ a0.Count)))) ∧ H b1 = some (.cells (c34 a0) 34) ∧ b1 < n) (fun J1 hJ1 => ?_) ?_
    · rcases Bool.eq_false_or_eq_true (a0.Tag == 0) with hb1 | hb1
      · rw [hb1] at f9
        refine Stk.run 4 (fun t H n => t 1 = .own b1 0 ∧ t 13 = .sc (.bool (decide (0 ≤ a0.Count))) ∧ H b1 = some (.cells (c34 a0) 34) ∧ b1 < n) (fun J hJ => ?_) ?_
        · simp [-splice, f1, f9, b_b1, ld_34_2_3]
          exact hJ _ _ _ ⟨by simp [f1], by simp [-splice, f1, f9, b_b1, ld_34_2_3], b_b1, l_b1⟩
        clear f1 f9 b_b1 l_b1
        rintro t H n ⟨f1, f13, b_b1, l_b1⟩
        refine Stk.on ?_
        exact Stk.ln 0 (by decide) (hJ1 _ _ _ ⟨f1, f13.trans (congrArg (fun q => AV.sc (.bool q)) (by rw [hb1]; rfl)), b_b1, l_b1⟩)
      · rw [hb1] at f9
        refine Stk.run 4 (fun t H n => t 1 = .own b1 0 ∧ t 13 = .sc (.bool false) ∧ H b1 = some (.cells (c34 a0) 34) ∧ b1 < n) (fun J hJ => ?_) ?_
        · simp [-splice, f1, f9, b_b1]
          exact hJ _ _ _ ⟨by simp [f1], by simp [-splice, f1, f9, b_b1], b_b1, l_b1⟩
        clear f1 f9 b_b1 l_b1
        rintro t H n ⟨f1, f13, b_b1, l_b1⟩
        refine Stk.on ?_
        exact Stk.ln 0 (by decide) (hJ1 _ _ _ ⟨f1, f13.trans (congrArg (fun q => AV.sc (.bool q)) (by rw [hb1]; rfl)), b_b1, l_b1⟩)
    clear f1 f9 b_b1 l_b1
    rintro t H n ⟨f1, f13, b_b1, l_b1⟩
    refine Stk.run 1 (fun t H n => t 1 = .own b1 0 ∧ t 14 = .sc (.bool ((a0.Tag == 0) && (decide (0 ≤ a0.Count)))) ∧ H b1 = some (.cells (c34 a0) 34) ∧ b1 < n) (fun J hJ => ?_) ?_
    · simp [-splice, f1, f13, b_b1]
      exact hJ _ _ _ ⟨by simp [f1], by simp [-splice, f1, f13, b_b1], b_b1, l_b1⟩
    clear f1 f13 b_b1 l_b1
    rintro t H n ⟨f1, f14, b_b1, l_b1⟩
    refine Stk.jo 4 (fun t H n => t 18 = .sc (.bool (((a0.Tag == 0) && (decide (0 ≤ a0.Count))) && (decide (a0.Count ≤ 64))))) (fun J2 hJ2 => ?_) ?_
    · rcases Bool.eq_false_or_eq_true ((a0.Tag == 0) && (decide (0 ≤ a0.Count))) with hb2 | hb2
      · rw [hb2] at f14
        refine Stk.run 4 (fun t H n => t 18 = .sc (.bool (decide (a0.Count ≤ 64)))) (fun J hJ => ?_) ?_
        · simp [-splice, f1, f14, b_b1, ld_34_2_3]
          exact hJ _ _ _ (by simp [-splice, f1, f14, b_b1, ld_34_2_3])
        clear f1 f14 b_b1 l_b1
        rintro t H n f18
        refine Stk.on ?_
        exact Stk.ln 0 (by decide) (hJ2 _ _ _ (f18.trans (congrArg (fun q => AV.sc (.bool q)) (by rw [hb2]; rfl))))
      · rw [hb2] at f14
        refine Stk.run 4 (fun t H n => t 18 = .sc (.bool false)) (fun J hJ => ?_) ?_
        · simp [-splice, f1, f14, b_b1]
          exact hJ _ _ _ (by simp [-splice, f1, f14, b_b1])
        clear f1 f14 b_b1 l_b1
        rintro t H n f18
        refine Stk.on ?_
        exact Stk.ln 0 (by decide) (hJ2 _ _ _ (f18.trans (congrArg (fun q => AV.sc (.bool q)) (by rw [hb2]; rfl))))
    clear f1 f14 b_b1 l_b1
    rintro t H n f18
    refine Stk.run 1 (fun t H n => t 2 = .sc (.bool (((a0.Tag == 0) && (decide (0 ≤ a0.Count))) && (decide (a0.Count ≤ 64))))) (fun J hJ => ?_) ?_
    · simp [-splice, f18]
      exact hJ _ _ _ (by simp [-splice, f18])
    clear f18
    rintro t H n f2
    refine Stk.on ?_
    refine Stk.rt ?_
    have hq := Option.some.inj h; subst hq
    exact (hr _ _ _ (.sc (.bool (((a0.Tag == 0) && (decide (0 ≤ a0.Count))) && (decide (a0.Count ≤ 64))))) ([]) (by simp [f2]) (.inr (.inr (.free (rfl))))).1
  · have h := cF hb2 h
    refine Stk.sk ?_
    refine Stk.sq ?_
    refine Stk.rg ?_
    refine Stk.run 4 (fun t H n => t 1 = .own b1 0 ∧ t 22 = .sc (.bool (a0.Kind == 0)) ∧ H b1 = some (.cells (c34 a0) 34) ∧ b1 < n) (fun J hJ => ?_) ?_
    · simp [-splice, f1, f5, b_b1, ld_34_0_3]
      exact hJ _ _ _ ⟨by simp [f1], by simp [-splice, f1, f5, b_b1, ld_34_0_3], b_b1, l_b1⟩
    clear f1 f5 b_b1 l_b1
    rintro t H n ⟨f1, f22, b_b1, l_b1⟩
    refine Stk.jo 4 (fun t H n => t 1 = .own b1 0 ∧ t 26 = .sc (.bool ((a0.Kind == 0) && (decide (0 ≤ a0.Tag)))) ∧ H b1 = some (.cells (c34 a0) 34) ∧ b1 < n) (fun J3 hJ3 => ?_) ?_
    · rcases Bool.eq_false_or_eq_true (a0.Kind == 0) with hb3 | hb3
      · rw [hb3] at f22
        refine Stk.run 4 (fun t H n => t 1 = .own b1 0 ∧ t 26 = .sc (.bool (decide (0 ≤ a0.Tag))) ∧ H b1 = some (.cells (c34 a0) 34) ∧ b1 < n) (fun J hJ => ?_) ?_
        · simp [-splice, f1, f22, b_b1, ld_34_1_3]
          exact hJ _ _ _ ⟨by simp [f1], by simp [-splice, f1, f22, b_b1, ld_34_1_3], b_b1, l_b1⟩
        clear f1 f22 b_b1 l_b1
        rintro t H n ⟨f1, f26, b_b1, l_b1⟩
        refine Stk.on ?_
        exact Stk.ln 0 (by decide) (hJ3 _ _ _ ⟨f1, f26.trans (congrArg (fun q => AV.sc (.bool q)) (by rw [hb3]; rfl)), b_b1, l_b1⟩)
      · rw [hb3] at f22
        refine Stk.run 4 (fun t H n => t 1 = .own b1 0 ∧ t 26 = .sc (.bool false) ∧ H b1 = some (.cells (c34 a0) 34) ∧ b1 < n) (fun J hJ => ?_) ?_
        · simp [-splice, f1, f22, b_b1]
          exact hJ _ _ _ ⟨by simp [f1], by simp [-splice, f1, f22, b_b1], b_b1, l_b1⟩
        clear f1 f22 b_b1 l_b1
        rintro t H n ⟨f1, f26, b_b1, l_b1⟩
        refine Stk.on ?_
        exact Stk.ln 0 (by decide) (hJ3 _ _ _ ⟨f1, f26.trans (congrArg (fun q => AV.sc (.bool q)) (by rw [hb3]; rfl)), b_b1, l_b1⟩)
    clear f1 f22 b_b1 l_b1
    rintro t H n ⟨f1, f26, b_b1, l_b1⟩
    refine Stk.run 1 (fun t H n => t 1 = .own b1 0 ∧ t 27 = .sc (.bool ((a0.Kind == 0) && (decide (0 ≤ a0.Tag)))) ∧ H b1 = some (.cells (c34 a0) 34) ∧ b1 < n) (fun J hJ => ?_) ?_
    · simp [-splice, f1, f26, b_b1]
      exact hJ _ _ _ ⟨by simp [f1], by simp [-splice, f1, f26, b_b1], b_b1, l_b1⟩
    clear f1 f26 b_b1 l_b1
    rintro t H n ⟨f1, f27, b_b1, l_b1⟩
    refine Stk.jo 4 (fun t H n => t 1 = .own b1 0 ∧ t 31 = .sc (.bool (((a0.Kind == 0) && (decide (0 ≤ a0.Tag))) && (decide (a0.Tag ≤ 15)))) ∧ H b1 = some (.cells (c34 a0) 34) ∧ b1 < n) (fun J4 hJ4 => ?_) ?_
    · rcases Bool.eq_false_or_eq_true ((a0.Kind == 0) && (decide (0 ≤ a0.Tag))) with hb4 | hb4
      · rw [hb4] at f27
        refine Stk.run 4 (fun t H n => t 1 = .own b1 0 ∧ t 31 = .sc (.bool (decide (a0.Tag ≤ 15))) ∧ H b1 = some (.cells (c34 a0) 34) ∧ b1 < n) (fun J hJ => ?_) ?_
        · simp [-splice, f1, f27, b_b1, ld_34_1_3]
          exact hJ _ _ _ ⟨by simp [f1], by simp [-splice, f1, f27, b_b1, ld_34_1_3], b_b1, l_b1⟩
        clear f1 f27 b_b1 l_b1
        rintro t H n ⟨f1, f31, b_b1, l_b1⟩
        refine Stk.on ?_
        exact Stk.ln 0 (by decide) (hJ4 _ _ _ ⟨f1, f31.trans (congrArg (fun q => AV.sc (.bool q)) (by rw [hb4]; rfl)), b_b1, l_b1⟩)
      · rw [hb4] at f27
        refine Stk.run 4 (fun t H n => t 1 = .own b1 0 ∧ t 31 = .sc (.bool false) ∧ H b1 = some (.cells (c34 a0) 34) ∧ b1 < n) (fun J hJ => ?_) ?_
        · simp [-splice, f1, f27, b_b1]
          exact hJ _ _ _ ⟨by simp [f1], by simp [-splice, f1, f27, b_b1], b_b1, l_b1⟩
        clear f1 f27 b_b1 l_b1
        rintro t H n ⟨f1, f31, b_b1, l_b1⟩
        refine Stk.on ?_
        exact Stk.ln 0 (by decide) (hJ4 _ _ _ ⟨f1, f31.trans (congrArg (fun q => AV.sc (.bool q)) (by rw [hb4]; rfl)), b_b1, l_b1⟩)
    clear f1 f27 b_b1 l_b1
    rintro t H n ⟨f1, f31, b_b1, l_b1⟩
    refine Stk.run 1 (fun t H n => t 1 = .own b1 0 ∧ t 32 = .sc (.bool (((a0.Kind == 0) && (decide (0 ≤ a0.Tag))) && (decide (a0.Tag ≤ 15)))) ∧ H b1 = some (.cells (c34 a0) 34) ∧ b1 < n) (fun J hJ => ?_) ?_
    · simp [-splice, f1, f31, b_b1]
      exact hJ _ _ _ ⟨by simp [f1], by simp [-splice, f1, f31, b_b1], b_b1, l_b1⟩
    clear f1 f31 b_b1 l_b1
    rintro t H n ⟨f1, f32, b_b1, l_b1⟩
    refine Stk.jo 4 (fun t H n => t 1 = .own b1 0 ∧ t 36 = .sc (.bool ((((a0.Kind == 0) && (decide (0 ≤ a0.Tag))) && (decide (a0.Tag ≤ 15))) && (decide (1 ≤ a0.Count)))) ∧ H b1 = some (.cells (c34 a0) 34) ∧ b1 < n) (fun J5 hJ5 => ?_) ?_
    · rcases Bool.eq_false_or_eq_true (((a0.Kind == 0) && (decide (0 ≤ a0.Tag))) && (decide (a0.Tag ≤ 15))) with hb5 | hb5
      · rw [hb5] at f32
        refine Stk.run 4 (fun t H n => t 1 = .own b1 0 ∧ t 36 = .sc (.bool (decide (1 ≤ a0.Count))) ∧ H b1 = some (.cells (c34 a0) 34) ∧ b1 < n) (fun J hJ => ?_) ?_
        · simp [-splice, f1, f32, b_b1, ld_34_2_3]
          exact hJ _ _ _ ⟨by simp [f1], by simp [-splice, f1, f32, b_b1, ld_34_2_3], b_b1, l_b1⟩
        clear f1 f32 b_b1 l_b1
        rintro t H n ⟨f1, f36, b_b1, l_b1⟩
        refine Stk.on ?_
        exact Stk.ln 0 (by decide) (hJ5 _ _ _ ⟨f1, f36.trans (congrArg (fun q => AV.sc (.bool q)) (by rw [hb5]; rfl)), b_b1, l_b1⟩)
      · rw [hb5] at f32
        refine Stk.run 4 (fun t H n => t 1 = .own b1 0 ∧ t 36 = .sc (.bool false) ∧ H b1 = some (.cells (c34 a0) 34) ∧ b1 < n) (fun J hJ => ?_) ?_
        · simp [-splice, f1, f32, b_b1]
          exact hJ _ _ _ ⟨by simp [f1], by simp [-splice, f1, f32, b_b1], b_b1, l_b1⟩
        clear f1 f32 b_b1 l_b1
        rintro t H n ⟨f1, f36, b_b1, l_b1⟩
        refine Stk.on ?_
        exact Stk.ln 0 (by decide) (hJ5 _ _ _ ⟨f1, f36.trans (congrArg (fun q => AV.sc (.bool q)) (by rw [hb5]; rfl)), b_b1, l_b1⟩)
    clear f1 f32 b_b1 l_b1
    rintro t H n ⟨f1, f36, b_b1, l_b1⟩
    refine Stk.run 1 (fun t H n => t 1 = .own b1 0 ∧ t 37 = .sc (.bool ((((a0.Kind == 0) && (decide (0 ≤ a0.Tag))) && (decide (a0.Tag ≤ 15))) && (decide (1 ≤ a0.Count)))) ∧ H b1 = some (.cells (c34 a0) 34) ∧ b1 < n) (fun J hJ => ?_) ?_
    · simp [-splice, f1, f36, b_b1]
      exact hJ _ _ _ ⟨by simp [f1], by simp [-splice, f1, f36, b_b1], b_b1, l_b1⟩
    clear f1 f36 b_b1 l_b1
    rintro t H n ⟨f1, f37, b_b1, l_b1⟩
    refine Stk.jo 4 (fun t H n => t 41 = .sc (.bool (((((a0.Kind == 0) && (decide (0 ≤ a0.Tag))) && (decide (a0.Tag ≤ 15))) && (decide (1 ≤ a0.Count))) && (decide (a0.Count ≤ 6))))) (fun J6 hJ6 => ?_) ?_
    · rcases Bool.eq_false_or_eq_true ((((a0.Kind == 0) && (decide (0 ≤ a0.Tag))) && (decide (a0.Tag ≤ 15))) && (decide (1 ≤ a0.Count))) with hb6 | hb6
      · rw [hb6] at f37
        refine Stk.run 4 (fun t H n => t 41 = .sc (.bool (decide (a0.Count ≤ 6)))) (fun J hJ => ?_) ?_
        · simp [-splice, f1, f37, b_b1, ld_34_2_3]
          exact hJ _ _ _ (by simp [-splice, f1, f37, b_b1, ld_34_2_3])
        clear f1 f37 b_b1 l_b1
        rintro t H n f41
        refine Stk.on ?_
        exact Stk.ln 0 (by decide) (hJ6 _ _ _ (f41.trans (congrArg (fun q => AV.sc (.bool q)) (by rw [hb6]; rfl))))
      · rw [hb6] at f37
        refine Stk.run 4 (fun t H n => t 41 = .sc (.bool false)) (fun J hJ => ?_) ?_
        · simp [-splice, f1, f37, b_b1]
          exact hJ _ _ _ (by simp [-splice, f1, f37, b_b1])
        clear f1 f37 b_b1 l_b1
        rintro t H n f41
        refine Stk.on ?_
        exact Stk.ln 0 (by decide) (hJ6 _ _ _ (f41.trans (congrArg (fun q => AV.sc (.bool q)) (by rw [hb6]; rfl))))
    clear f1 f37 b_b1 l_b1
    rintro t H n f41
    refine Stk.run 1 (fun t H n => t 2 = .sc (.bool (((((a0.Kind == 0) && (decide (0 ≤ a0.Tag))) && (decide (a0.Tag ≤ 15))) && (decide (1 ≤ a0.Count))) && (decide (a0.Count ≤ 6))))) (fun J hJ => ?_) ?_
    · simp [-splice, f41]
      exact hJ _ _ _ (by simp [-splice, f41])
    clear f41
    rintro t H n f2
    refine Stk.on ?_
    refine Stk.rt ?_
    have hq := Option.some.inj h; subst hq
    exact (hr _ _ _ (.sc (.bool (((((a0.Kind == 0) && (decide (0 ≤ a0.Tag))) && (decide (a0.Tag ≤ 15))) && (decide (1 ≤ a0.Count))) && (decide (a0.Count ≤ 6))))) ([]) (by simp [f2]) (.inr (.inr (.free (rfl))))).1
theorem ok_R16_Read (F : Nat) (a0 : Int) (r : (api_Head × Bool)) (h : R16_Read F a0 = some r) : RunF Try.prog T.T 58 [.sc (.int .u64 a0)] (.tup [.agg (c34 r.1), .sc (.bool r.2)]) := by
  rw [R16_Read] at h
  refine RunF.z Try.func58 rfl rfl rfl rfl rfl (fun C hr => ?_)
  refine Stk.gen (fun t H n => t 0 = .sc (.int .u64 a0)) (by simp) ?_
  rintro t H n f0
  refine Stk.sq ?_
  refine Stk.rg ?_
  refine Stk.om (mop_alloc T.t34 (cs := c34 (api_Head.mk 0 0 0)) rfl) (by simp [f0]) rfl (fun t' ht' => ?_)
  refine Stk.gen (fun t H n => ∃ b1, t 0 = .sc (.int .u64 a0) ∧ t 2 = .own b1 0 ∧ H b1 = some (.cells (c34 (api_Head.mk 0 0 0)) 34) ∧ b1 < n) ⟨n, by simp [ht', f0], by simp [ht'], upd_same _ _ _, Nat.lt_succ_self _⟩ ?_
  clear f0 ht' t'
  rintro t H n ⟨b1, f0, f2, b_b1, l_b1⟩
  refine Stk.run 1 (fun t H n => t 0 = .sc (.int .u64 a0) ∧ t 2 = .own b1 0 ∧ H b1 = some (.cells (c34 (api_Head.mk 0 0 0)) 34) ∧ b1 < n) (fun J hJ => ?_) ?_
  · simp [-splice, f0, f2, b_b1]
    exact hJ _ _ _ ⟨by simp [f0], by simp [f2], b_b1, l_b1⟩
  clear f0 f2 b_b1 l_b1
  rintro t H n ⟨f0, f2, b_b1, l_b1⟩
  refine Stk.on ?_
  refine Stk.sq ?_
  refine Stk.sq ?_
  refine Stk.rg ?_
  refine Stk.run 2 (fun t H n => t 0 = .sc (.int .u64 a0) ∧ t 2 = .own b1 0 ∧ t 6 = .sc (.bool (decide (1048576 ≤ a0))) ∧ H b1 = some (.cells (c34 (api_Head.mk 0 0 0)) 34) ∧ b1 < n) (fun J hJ => ?_) ?_
  · simp [-splice, f0, f2, b_b1]
    exact hJ _ _ _ ⟨by simp [f0], by simp [f2], by simp [-splice, f0, f2, b_b1], b_b1, l_b1⟩
  clear f0 f2 b_b1 l_b1
  rintro t H n ⟨f0, f2, f6, b_b1, l_b1⟩
  refine Stk.on ?_
  refine Stk.cond (decide (1048576 ≤ a0)) (by exact f6) (fun hb2 => ?_) (fun hb2 => ?_)
  · have h := cT hb2 h
    refine Stk.sq ?_
    refine Stk.rg ?_
    refine Stk.ov (vop_build T.t34 rfl rfl (cs := c34 (api_Head.mk 0 0 0)) (cs' := c34 (api_Head.mk 0 0 0)) rfl (.nil)) (by simp [f0, f2, f6]) rfl (fun t' ht' => ?_)
    refine Stk.gen (fun t H n => t 2 = .own b1 0 ∧ t 7 = .agg (c34 (api_Head.mk 0 0 0)) ∧ H b1 = some (.cells (c34 (api_Head.mk 0 0 0)) 34) ∧ b1 < n) ⟨by simp [ht', f2], by simp [ht'], b_b1, l_b1⟩ ?_
    clear f0 f2 f6 b_b1 l_b1 ht' t'
    rintro t H n ⟨f2, f7, b_b1, l_b1⟩
    refine Stk.om (mop_store (z := 3) rfl f2 b_b1 f7 (len34 _) (by rw [len34]; decide) (ok34 _) (st_34_0_34 _ _)) (by simp [f2, f7]) rfl (fun t' ht' => ?_)
    refine Stk.gen (fun t H n => t 2 = .own b1 0 ∧ H b1 = some (.cells (c34 (api_Head.mk 0 0 0)) 34) ∧ b1 < n) ⟨by simp [ht', f2], upd_same _ _ _, l_b1⟩ ?_
    clear f2 f7 b_b1 l_b1 ht' t'
    rintro t H n ⟨f2, b_b1, l_b1⟩
    refine Stk.run 1 (fun t H n => t 2 = .own b1 0 ∧ t 3 = .sc (.bool false) ∧ H b1 = some (.cells (c34 (api_Head.mk 0 0 0)) 34) ∧ b1 < n) (fun J hJ => ?_) ?_
    · simp [-splice, f2, b_b1]
      exact hJ _ _ _ ⟨by simp [f2], by simp [-splice, f2, b_b1], b_b1, l_b1⟩
    clear f2 b_b1 l_b1
    rintro t H n ⟨f2, f3, b_b1, l_b1⟩
    refine Stk.on ?_
    refine Stk.rt ?_
    have hq := Option.some.inj h; subst hq
    exact (hr _ _ _ (.tup [.agg (c34 (api_Head.mk 0 0 0)), .sc (.bool false)]) ([]) (by simp [f2, f3, b_b1, ld_34_0_34]) (.inr (.inr (.tup (.cons (.free (fr34 _)) (.cons (.free (rfl)) (.nil))))))).1
  · have h := cF hb2 h
    refine Stk.sk ?_
    refine Stk.sq ?_
    refine Stk.rg ?_
    refine Stk.run 10 (fun t H n => t 2 = .own b1 0 ∧ t 10 = .sc (.int .i64 (IntKind.i64.wrap (IntKind.u64.wrap (a0.tdiv 65536)))) ∧ t 14 = .sc (.int .i64 (IntKind.i64.wrap ((IntKind.u64.wrap (a0.tdiv 256)).tmod 256))) ∧ t 17 = .sc (.int .i64 (IntKind.i64.wrap (a0.tmod 256))) ∧ H b1 = some (.cells (c34 (api_Head.mk 0 0 0)) 34) ∧ b1 < n) (fun J hJ => ?_) ?_
    · simp [-splice, f0, f2, f6, b_b1]
      exact hJ _ _ _ ⟨by simp [f2], by simp [-splice, f0, f2, f6, b_b1], by simp [-splice, f0, f2, f6, b_b1], by simp [-splice, f0, f2, f6, b_b1], b_b1, l_b1⟩
    clear f0 f2 f6 b_b1 l_b1
    rintro t H n ⟨f2, f10, f14, f17, b_b1, l_b1⟩
    refine Stk.ov (vop_build T.t34 rfl rfl (cs := c34 (api_Head.mk 0 0 0)) (cs' := c34 (api_Head.mk (IntKind.i64.wrap (IntKind.u64.wrap (a0.tdiv 65536))) (IntKind.i64.wrap ((IntKind.u64.wrap (a0.tdiv 256)).tmod 256)) (IntKind.i64.wrap (a0.tmod 256)))) rfl (.cons f10 rfl rfl rfl rfl (rfl) (by rw [len34]; decide) (st_34_0_3 _ _) (.cons f14 rfl rfl rfl rfl (rfl) (by rw [len34]; decide) (st_34_1_3 _ _) (.cons f17 rfl rfl rfl rfl (rfl) (by rw [len34]; decide) (st_34_2_3 _ _) (.nil))))) (by simp [f2, f10, f14, f17]) rfl (fun t' ht' => ?_)
    refine Stk.gen (fun t H n => t 2 = .own b1 0 ∧ t 18 = .agg (c34 (api_Head.mk (IntKind.i64.wrap (IntKind.u64.wrap (a0.tdiv 65536))) (IntKind.i64.wrap ((IntKind.u64.wrap (a0.tdiv 256)).tmod 256)) (IntKind.i64.wrap (a0.tmod 256)))) ∧ H b1 = some (.cells (c34 (api_Head.mk 0 0 0)) 34) ∧ b1 < n) ⟨by simp [ht', f2], by simp [ht'], b_b1, l_b1⟩ ?_
    clear f2 f10 f14 f17 b_b1 l_b1 ht' t'
    rintro t H n ⟨f2, f18, b_b1, l_b1⟩
    refine Stk.om (mop_alloc T.t34 (cs := c34 (api_Head.mk 0 0 0)) rfl) (by simp [f2, f18]) rfl (fun t' ht' => ?_)
    refine Stk.gen (fun t H n => ∃ b3, t 2 = .own b1 0 ∧ t 4 = .own b3 0 ∧ t 18 = .agg (c34 (api_Head.mk (IntKind.i64.wrap (IntKind.u64.wrap (a0.tdiv 65536))) (IntKind.i64.wrap ((IntKind.u64.wrap (a0.tdiv 256)).tmod 256)) (IntKind.i64.wrap (a0.tmod 256)))) ∧ H b1 = some (.cells (c34 (api_Head.mk 0 0 0)) 34) ∧ b1 < n ∧ H b3 = some (.cells (c34 (api_Head.mk 0 0 0)) 34) ∧ b3 < n ∧ b1 ≠ b3) ⟨n, by simp [ht', f2], by simp [ht'], by simp [ht', f18], (upd_ne _ _ (Nat.ne_of_lt l_b1)).trans b_b1, Nat.lt_succ_of_lt l_b1, upd_same _ _ _, Nat.lt_succ_self _, Nat.ne_of_lt l_b1⟩ ?_
    clear f2 f18 b_b1 l_b1 ht' t'
    rintro t H n ⟨b3, f2, f4, f18, b_b1, l_b1, b_b3, l_b3, d_b1_b3⟩
    refine Stk.om (mop_store (z := 3) rfl f4 b_b3 f18 (len34 _) (by rw [len34]; decide) (ok34 _) (st_34_0_34 _ _)) (by simp [f2, f4, f18]) rfl (fun t' ht' => ?_)
    refine Stk.gen (fun t H n => t 2 = .own b1 0 ∧ t 4 = .own b3 0 ∧ H b1 = some (.cells (c34 (api_Head.mk 0 0 0)) 34) ∧ b1 < n ∧ H b3 = some (.cells (c34 (api_Head.mk (IntKind.i64.wrap (IntKind.u64.wrap (a0.tdiv 65536))) (IntKind.i64.wrap ((IntKind.u64.wrap (a0.tdiv 256)).tmod 256)) (IntKind.i64.wrap (a0.tmod 256)))) 34) ∧ b3 < n ∧ b1 ≠ b3) ⟨by simp [ht', f2], by simp [ht', f4], (upd_ne _ _ d_b1_b3).trans b_b1, l_b1, upd_same _ _ _, l_b3, d_b1_b3⟩ ?_
    clear f2 f4 f18 b_b1 l_b1 b_b3 l_b3 d_b1_b3 ht' t'
    rintro t H n ⟨f2, f4, b_b1, l_b1, b_b3, l_b3, d_b1_b3⟩
    refine Stk.on ?_
    refine Stk.sq ?_
    refine Stk.sq ?_
    refine Stk.rg ?_
    refine Stk.run 1 (fun t H n => t 2 = .own b1 0 ∧ t 4 = .own b3 0 ∧ t 19 = .agg (c34 (api_Head.mk (IntKind.i64.wrap (IntKind.u64.wrap (a0.tdiv 65536))) (IntKind.i64.wrap ((IntKind.u64.wrap (a0.tdiv 256)).tmod 256)) (IntKind.i64.wrap (a0.tmod 256)))) ∧ H b1 = some (.cells (c34 (api_Head.mk 0 0 0)) 34) ∧ b1 < n ∧ H b3 = some (.cells (c34 (api_Head.mk (IntKind.i64.wrap (IntKind.u64.wrap (a0.tdiv 65536))) (IntKind.i64.wrap ((IntKind.u64.wrap (a0.tdiv 256)).tmod 256)) (IntKind.i64.wrap (a0.tmod 256)))) 34) ∧ b3 < n ∧ b1 ≠ b3) (fun J hJ => ?_) ?_
    · simp [-splice, f2, f4, b_b1, b_b3, ld_34_0_34]
      exact hJ _ _ _ ⟨by simp [f2], by simp [f4], by simp [-splice, f2, f4, b_b1, b_b3, ld_34_0_34], b_b1, l_b1, b_b3, l_b3, d_b1_b3⟩
    clear f2 f4 b_b1 l_b1 b_b3 l_b3 d_b1_b3
    rintro t H n ⟨f2, f4, f19, b_b1, l_b1, b_b3, l_b3, d_b1_b3⟩
    obtain ⟨x4, hx4, h⟩ := bnd h
    refine Stk.cv (g := 92) (args := [.agg (c34 (api_Head.mk (IntKind.i64.wrap (IntKind.u64.wrap (a0.tdiv 65536))) (IntKind.i64.wrap ((IntKind.u64.wrap (a0.tdiv 256)).tmod 256)) (IntKind.i64.wrap (a0.tmod 256))))]) (args' := [.agg (c34 (api_Head.mk (IntKind.i64.wrap (IntKind.u64.wrap (a0.tdiv 65536))) (IntKind.i64.wrap ((IntKind.u64.wrap (a0.tdiv 256)).tmod 256)) (IntKind.i64.wrap (a0.tmod 256))))]) (v := .sc (.bool x4)) [] (ok_R16_can F _ _ hx4) (by simp [f2, f4, f19]) rfl rfl (by simp [f2, f4, f19]) (.cons (.free (fr34 _)) (.nil)) (.inl ⟨rfl, rfl⟩) (fun t' ht' => ?_)
    refine Stk.gen (fun t H n => t 2 = .own b1 0 ∧ t 4 = .own b3 0 ∧ t 20 = .sc (.bool x4) ∧ H b1 = some (.cells (c34 (api_Head.mk 0 0 0)) 34) ∧ b1 < n ∧ H b3 = some (.cells (c34 (api_Head.mk (IntKind.i64.wrap (IntKind.u64.wrap (a0.tdiv 65536))) (IntKind.i64.wrap ((IntKind.u64.wrap (a0.tdiv 256)).tmod 256)) (IntKind.i64.wrap (a0.tmod 256)))) 34) ∧ b3 < n ∧ b1 ≠ b3) ⟨by simp [ht', f2], by simp [ht', f4], by simp [ht'], b_b1, l_b1, b_b3, l_b3, d_b1_b3⟩ ?_
    clear f2 f4 f19 b_b1 l_b1 b_b3 l_b3 d_b1_b3 ht' t'
    rintro t H n ⟨f2, f4, f20, b_b1, l_b1, b_b3, l_b3, d_b1_b3⟩
    refine Stk.run 1 (fun t H n => t 2 = .own b1 0 ∧ t 4 = .own b3 0 ∧ t 21 = .sc (.bool (!x4)) ∧ H b1 = some (.cells (c34 (api_Head.mk 0 0 0)) 34) ∧ b1 < n ∧ H b3 = some (.cells (c34 (api_Head.mk (IntKind.i64.wrap (IntKind.u64.wrap (a0.tdiv 65536))) (IntKind.i64.wrap ((IntKind.u64.wrap (a0.tdiv 256)).tmod 256)) (IntKind.i64.wrap (a0.tmod 256)))) 34) ∧ b3 < n ∧ b1 ≠ b3) (fun J hJ => ?_) ?_
    · simp [-splice, f2, f4, f20, b_b1, b_b3]
      exact hJ _ _ _ ⟨by simp [f2], by simp [f4], by simp [-splice, f2, f4, f20, b_b1, b_b3], b_b1, l_b1, b_b3, l_b3, d_b1_b3⟩
    clear f2 f4 f20 b_b1 l_b1 b_b3 l_b3 d_b1_b3
    rintro t H n ⟨f2, f4, f21, b_b1, l_b1, b_b3, l_b3, d_b1_b3⟩
    refine Stk.on ?_
    refine Stk.cond (!x4) (by exact f21) (fun hb5 => ?_) (fun hb5 => ?_)
    · have h := cT hb5 h
      refine Stk.sq ?_
      refine Stk.rg ?_
      refine Stk.ov (vop_build T.t34 rfl rfl (cs := c34 (api_Head.mk 0 0 0)) (cs' := c34 (api_Head.mk 0 0 0)) rfl (.nil)) (by simp [f2, f4, f21]) rfl (fun t' ht' => ?_)
      refine Stk.gen (fun t H n => t 2 = .own b1 0 ∧ t 22 = .agg (c34 (api_Head.mk 0 0 0)) ∧ H b1 = some (.cells (c34 (api_Head.mk 0 0 0)) 34) ∧ b1 < n) ⟨by simp [ht', f2], by simp [ht'], b_b1, l_b1⟩ ?_
      clear f2 f4 f21 b_b1 l_b1 b_b3 l_b3 d_b1_b3 ht' t'
      rintro t H n ⟨f2, f22, b_b1, l_b1⟩
      refine Stk.om (mop_store (z := 3) rfl f2 b_b1 f22 (len34 _) (by rw [len34]; decide) (ok34 _) (st_34_0_34 _ _)) (by simp [f2, f22]) rfl (fun t' ht' => ?_)
      refine Stk.gen (fun t H n => t 2 = .own b1 0 ∧ H b1 = some (.cells (c34 (api_Head.mk 0 0 0)) 34) ∧ b1 < n) ⟨by simp [ht', f2], upd_same _ _ _, l_b1⟩ ?_
      clear f2 f22 b_b1 l_b1 ht' t'
      rintro t H n ⟨f2, b_b1, l_b1⟩
      refine Stk.run 1 (fun t H n => t 2 = .own b1 0 ∧ t 3 = .sc (.bool false) ∧ H b1 = some (.cells (c34 (api_Head.mk 0 0 0)) 34) ∧ b1 < n) (fun J hJ => ?_) ?_
      · simp [-splice, f2, b_b1]
        exact hJ _ _ _ ⟨by simp [f2], by simp [-splice, f2, b_b1], b_b1, l_b1⟩
      clear f2 b_b1 l_b1
      rintro t H n ⟨f2, f3, b_b1, l_b1⟩
      refine Stk.on ?_
      refine Stk.rt ?_
      have hq := Option.some.inj h; subst hq
      exact (hr _ _ _ (.tup [.agg (c34 (api_Head.mk 0 0 0)), .sc (.bool false)]) ([]) (by simp [f2, f3, b_b1, ld_34_0_34]) (.inr (.inr (.tup (.cons (.free (fr34 _)) (.cons (.free (rfl)) (.nil))))))).1
    · have h := cF hb5 h
      refine Stk.sk ?_
      refine Stk.sq ?_
      refine Stk.rg ?_
      refine Stk.run 1 (fun t H n => t 2 = .own b1 0 ∧ t 23 = .agg (c34 (api_Head.mk (IntKind.i64.wrap (IntKind.u64.wrap (a0.tdiv 65536))) (IntKind.i64.wrap ((IntKind.u64.wrap (a0.tdiv 256)).tmod 256)) (IntKind.i64.wrap (a0.tmod 256)))) ∧ H b1 = some (.cells (c34 (api_Head.mk 0 0 0)) 34) ∧ b1 < n) (fun J hJ => ?_) ?_
      · simp [-splice, f2, f4, f21, b_b1, b_b3, ld_34_0_34]
        exact hJ _ _ _ ⟨by simp [f2], by simp [-splice, f2, f4, f21, b_b1, b_b3, ld_34_0_34], b_b1, l_b1⟩
      clear f2 f4 f21 b_b1 l_b1 b_b3 l_b3 d_b1_b3
      rintro t H n ⟨f2, f23, b_b1, l_b1⟩
      refine Stk.om (mop_store (z := 3) rfl f2 b_b1 f23 (len34 _) (by rw [len34]; decide) (ok34 _) (st_34_0_34 _ _)) (by simp [f2, f23]) rfl (fun t' ht' => ?_)
      refine Stk.gen (fun t H n => t 2 = .own b1 0 ∧ H b1 = some (.cells (c34 (api_Head.mk (IntKind.i64.wrap (IntKind.u64.wrap (a0.tdiv 65536))) (IntKind.i64.wrap ((IntKind.u64.wrap (a0.tdiv 256)).tmod 256)) (IntKind.i64.wrap (a0.tmod 256)))) 34) ∧ b1 < n) ⟨by simp [ht', f2], upd_same _ _ _, l_b1⟩ ?_
      clear f2 f23 b_b1 l_b1 ht' t'
      rintro t H n ⟨f2, b_b1, l_b1⟩
      refine Stk.run 1 (fun t H n => t 2 = .own b1 0 ∧ t 3 = .sc (.bool true) ∧ H b1 = some (.cells (c34 (api_Head.mk (IntKind.i64.wrap (IntKind.u64.wrap (a0.tdiv 65536))) (IntKind.i64.wrap ((IntKind.u64.wrap (a0.tdiv 256)).tmod 256)) (IntKind.i64.wrap (a0.tmod 256)))) 34) ∧ b1 < n) (fun J hJ => ?_) ?_
      · simp [-splice, f2, b_b1]
        exact hJ _ _ _ ⟨by simp [f2], by simp [-splice, f2, b_b1], b_b1, l_b1⟩
      clear f2 b_b1 l_b1
      rintro t H n ⟨f2, f3, b_b1, l_b1⟩
      refine Stk.on ?_
      refine Stk.rt ?_
      have hq := Option.some.inj h; subst hq
      exact (hr _ _ _ (.tup [.agg (c34 (api_Head.mk (IntKind.i64.wrap (IntKind.u64.wrap (a0.tdiv 65536))) (IntKind.i64.wrap ((IntKind.u64.wrap (a0.tdiv 256)).tmod 256)) (IntKind.i64.wrap (a0.tmod 256)))), .sc (.bool true)]) ([]) (by simp [f2, f3, b_b1, ld_34_0_34]) (.inr (.inr (.tup (.cons (.free (fr34 _)) (.cons (.free (rfl)) (.nil))))))).1
theorem ok_R16_Size (F : Nat) (a0 : api_Head) (r : Int) (h : R16_Size F a0 = some r) : RunF Try.prog T.T 36 [.agg (c34 a0)] (.sc (.int .i64 r)) := by
  rw [R16_Size] at h
  refine RunF.z Try.func36 rfl rfl rfl rfl rfl (fun C hr => ?_)
  refine Stk.gen (fun t H n => t 0 = .agg (c34 a0)) (by simp) ?_
  rintro t H n f0
  refine Stk.sq ?_
  refine Stk.rg ?_
  refine Stk.om (mop_box T.t34 (cs := c34 a0) (by show partOk (t 0) = true; rw [f0]; rfl) (by show cellsOf (t 0) = _; rw [f0]; rfl)) (by simp [f0]) rfl (fun t' ht' => ?_)
  refine Stk.gen (fun t H n => ∃ b1, t 1 = .own b1 0 ∧ H b1 = some (.cells (c34 a0) 34) ∧ b1 < n) ⟨n, by simp [ht'], upd_same _ _ _, Nat.lt_succ_self _⟩ ?_
  clear f0 ht' t'
  rintro t H n ⟨b1, f1, b_b1, l_b1⟩
  refine Stk.run 1 (fun t H n => t 1 = .own b1 0 ∧ H b1 = some (.cells (c34 a0) 34) ∧ b1 < n) (fun J hJ => ?_) ?_
  · simp [-splice, f1, b_b1]
    exact hJ _ _ _ ⟨by simp [f1], b_b1, l_b1⟩
  clear f1 b_b1 l_b1
  rintro t H n ⟨f1, b_b1, l_b1⟩
  refine Stk.on ?_
  refine Stk.sq ?_
  refine Stk.sq ?_
  refine Stk.rg ?_
  refine Stk.run 1 (fun t H n => t 1 = .own b1 0 ∧ t 3 = .agg (c34 a0) ∧ H b1 = some (.cells (c34 a0) 34) ∧ b1 < n) (fun J hJ => ?_) ?_
  · simp [-splice, f1, b_b1, ld_34_0_34]
    exact hJ _ _ _ ⟨by simp [f1], by simp [-splice, f1, b_b1, ld_34_0_34], b_b1, l_b1⟩
  clear f1 b_b1 l_b1
  rintro t H n ⟨f1, f3, b_b1, l_b1⟩
  obtain ⟨x2, hx2, h⟩ := bnd h
  refine Stk.cv (g := 92) (args := [.agg (c34 a0)]) (args' := [.agg (c34 a0)]) (v := .sc (.bool x2)) [] (ok_R16_can F _ _ hx2) (by simp [f1, f3]) rfl rfl (by simp [f1, f3]) (.cons (.free (fr34 _)) (.nil)) (.inl ⟨rfl, rfl⟩) (fun t' ht' => ?_)
  refine Stk.gen (fun t H n => t 1 = .own b1 0 ∧ t 4 = .sc (.bool x2) ∧ H b1 = some (.cells (c34 a0) 34) ∧ b1 < n) ⟨by simp [ht', f1], by simp [ht'], b_b1, l_b1⟩ ?_
  clear f1 f3 b_b1 l_b1 ht' t'
  rintro t H n ⟨f1, f4, b_b1, l_b1⟩
  refine Stk.run 1 (fun t H n => t 1 = .own b1 0 ∧ t 5 = .sc (.bool (!x2)) ∧ H b1 = some (.cells (c34 a0) 34) ∧ b1 < n) (fun J hJ => ?_) ?_
  · simp [-splice, f1, f4, b_b1]
    exact hJ _ _ _ ⟨by simp [f1], by simp [-splice, f1, f4, b_b1], b_b1, l_b1⟩
  clear f1 f4 b_b1 l_b1
  rintro t H n ⟨f1, f5, b_b1, l_b1⟩
  refine Stk.on ?_
  refine Stk.cond (!x2) (by exact f5) (fun hb3 => ?_) (fun hb3 => ?_)
  · have h := cT hb3 h
    refine Stk.sq ?_
    refine Stk.rg ?_
    refine Stk.run 1 (fun t H n => t 2 = .sc (.int .i64 0)) (fun J hJ => ?_) ?_
    · simp [-splice, f1, f5, b_b1]
      exact hJ _ _ _ (by simp [-splice, f1, f5, b_b1])
    clear f1 f5 b_b1 l_b1
    rintro t H n f2
    refine Stk.on ?_
    refine Stk.rt ?_
    have hq := Option.some.inj h; subst hq
    exact (hr _ _ _ (.sc (.int .i64 0)) ([]) (by simp [f2]) (.inr (.inr (.free (rfl))))).1
  · have h := cF hb3 h
    refine Stk.sk ?_
    refine Stk.sq ?_
    refine Stk.sq ?_
    refine Stk.rg ?_
    refine Stk.run 3 (fun t H n => t 1 = .own b1 0 ∧ t 8 = .sc (.bool (a0.Kind == 1)) ∧ H b1 = some (.cells (c34 a0) 34) ∧ b1 < n) (fun J hJ => ?_) ?_
    · simp [-splice, f1, f5, b_b1, ld_34_0_3]
      exact hJ _ _ _ ⟨by simp [f1], by simp [-splice, f1, f5, b_b1, ld_34_0_3], b_b1, l_b1⟩
    clear f1 f5 b_b1 l_b1
    rintro t H n ⟨f1, f8, b_b1, l_b1⟩
    refine Stk.on ?_
    refine Stk.cond (a0.Kind == 1) (by exact f8) (fun hb4 => ?_) (fun hb4 => ?_)
    · have h := cT hb4 h
      refine Stk.sq ?_
      refine Stk.rg ?_
      refine Stk.run 6 (fun t H n => t 2 = .sc (.int .i64 (IntKind.i64.wrap (2 + (IntKind.i64.wrap ((IntKind.i64.wrap (a0.Count + 7)).tdiv 8)))))) (fun J hJ => ?_) ?_
      · simp [-splice, f1, f8, b_b1, ld_34_2_3]
        exact hJ _ _ _ (by simp [-splice, f1, f8, b_b1, ld_34_2_3])
      clear f1 f8 b_b1 l_b1
      rintro t H n f2
      refine Stk.on ?_
      refine Stk.rt ?_
      have hq := Option.some.inj h; subst hq
      exact (hr _ _ _ (.sc (.int .i64 (IntKind.i64.wrap (2 + (IntKind.i64.wrap ((IntKind.i64.wrap (a0.Count + 7)).tdiv 8)))))) ([]) (by simp [f2]) (.inr (.inr (.free (rfl))))).1
    · have h := cF hb4 h
      refine Stk.sk ?_
      refine Stk.sq ?_
      refine Stk.rg ?_
      refine Stk.run 4 (fun t H n => t 2 = .sc (.int .i64 (IntKind.i64.wrap (2 + a0.Count)))) (fun J hJ => ?_) ?_
      · simp [-splice, f1, f8, b_b1, ld_34_2_3]
        exact hJ _ _ _ (by simp [-splice, f1, f8, b_b1, ld_34_2_3])
      clear f1 f8 b_b1 l_b1
      rintro t H n f2
      refine Stk.on ?_
      refine Stk.rt ?_
      have hq := Option.some.inj h; subst hq
      exact (hr _ _ _ (.sc (.int .i64 (IntKind.i64.wrap (2 + a0.Count)))) ([]) (by simp [f2]) (.inr (.inr (.free (rfl))))).1
theorem ok_R16_Heap_record (F : Nat) (a0 : handloomref16_Heap) (a1 : Int) (r : (api_Head × Int × Bool)) (h : R16_Heap_record F a0 a1 = some r) : RunF Try.prog T.T 145 [.sh (c176 a0), .sc (.int .u64 a1)] (.tup [.agg (c34 r.1), .sc (.int .i64 r.2.1), .sc (.bool r.2.2)]) := by
  rw [R16_Heap_record] at h
  refine RunF.z Try.func145 rfl rfl rfl rfl rfl (fun C hr => ?_)
  refine Stk.gen (fun t H n => t 0 = .sh (c176 a0) ∧ t 1 = .sc (.int .u64 a1)) ⟨by simp, by simp⟩ ?_
  rintro t H n ⟨f0, f1⟩
  refine Stk.sq ?_
  refine Stk.rg ?_
  refine Stk.om (mop_alloc T.t34 (cs := c34 (api_Head.mk 0 0 0)) rfl) (by simp [f0, f1]) rfl (fun t' ht' => ?_)
  refine Stk.gen (fun t H n => ∃ b1, t 0 = .sh (c176 a0) ∧ t 1 = .sc (.int .u64 a1) ∧ t 4 = .own b1 0 ∧ H b1 = some (.cells (c34 (api_Head.mk 0 0 0)) 34) ∧ b1 < n) ⟨n, by simp [ht', f0], by simp [ht', f1], by simp [ht'], upd_same _ _ _, Nat.lt_succ_self _⟩ ?_
  clear f0 f1 ht' t'
  rintro t H n ⟨b1, f0, f1, f4, b_b1, l_b1⟩
  refine Stk.run 2 (fun t H n => t 0 = .sh (c176 a0) ∧ t 1 = .sc (.int .u64 a1) ∧ t 4 = .own b1 0 ∧ H b1 = some (.cells (c34 (api_Head.mk 0 0 0)) 34) ∧ b1 < n) (fun J hJ => ?_) ?_
  · simp [-splice, f0, f1, f4, b_b1]
    exact hJ _ _ _ ⟨by simp [f0], by simp [f1], by simp [f4], b_b1, l_b1⟩
  clear f0 f1 f4 b_b1 l_b1
  rintro t H n ⟨f0, f1, f4, b_b1, l_b1⟩
  refine Stk.on ?_
  refine Stk.sq ?_
  refine Stk.rg ?_
  refine Stk.run 2 (fun t H n => t 0 = .sh (c176 a0) ∧ t 4 = .own b1 0 ∧ t 14 = .sh (c176 a0) ∧ t 15 = .sc (.int .u64 a1) ∧ H b1 = some (.cells (c34 (api_Head.mk 0 0 0)) 34) ∧ b1 < n) (fun J hJ => ?_) ?_
  · simp [-splice, f0, f1, f4, b_b1]
    exact hJ _ _ _ ⟨by simp [f0], by simp [f4], by simp [-splice, f0, f1, f4, b_b1], by simp [-splice, f0, f1, f4, b_b1], b_b1, l_b1⟩
  clear f0 f1 f4 b_b1 l_b1
  rintro t H n ⟨f0, f4, f14, f15, b_b1, l_b1⟩
  obtain ⟨x2, hx2, h⟩ := bnd h
  refine Stk.cv (g := 152) (args := [.sh (c176 a0), .sc (.int .u64 a1)]) (args' := [.sh (c176 a0), .sc (.int .u64 a1)]) (v := .tup [.sc (.int .i64 x2.1), .sc (.int .i64 x2.2)]) [] (ok_R16_Heap_left F _ _ _ hx2) (by simp [f0, f4, f14, f15]) rfl rfl (by simp [f0, f4, f14, f15]) (.cons (.free (by simp only [free]; exact fr176 _)) (.cons (.free (rfl)) (.nil))) (.inl ⟨rfl, by simp [free, freeL]⟩) (fun t' ht' => ?_)
  refine Stk.gen (fun t H n => t 0 = .sh (c176 a0) ∧ t 4 = .own b1 0 ∧ t 16 = .tup [.sc (.int .i64 x2.1), .sc (.int .i64 x2.2)] ∧ H b1 = some (.cells (c34 (api_Head.mk 0 0 0)) 34) ∧ b1 < n) ⟨by simp [ht', f0], by simp [ht', f4], by simp [ht'], b_b1, l_b1⟩ ?_
  clear f0 f4 f14 f15 b_b1 l_b1 ht' t'
  rintro t H n ⟨f0, f4, f16, b_b1, l_b1⟩
  refine Stk.run 5 (fun t H n => t 0 = .sh (c176 a0) ∧ t 4 = .own b1 0 ∧ t 7 = .sc (.int .i64 x2.1) ∧ t 8 = .sc (.int .i64 x2.2) ∧ H b1 = some (.cells (c34 (api_Head.mk 0 0 0)) 34) ∧ b1 < n) (fun J hJ => ?_) ?_
  · simp [-splice, f0, f4, f16, b_b1]
    exact hJ _ _ _ ⟨by simp [f0], by simp [f4], by simp [-splice, f0, f4, f16, b_b1], by simp [-splice, f0, f4, f16, b_b1], b_b1, l_b1⟩
  clear f0 f4 f16 b_b1 l_b1
  rintro t H n ⟨f0, f4, f7, f8, b_b1, l_b1⟩
  refine Stk.on ?_
  refine Stk.sq ?_
  refine Stk.sq ?_
  refine Stk.rg ?_
  refine Stk.run 2 (fun t H n => t 0 = .sh (c176 a0) ∧ t 4 = .own b1 0 ∧ t 7 = .sc (.int .i64 x2.1) ∧ t 20 = .sc (.bool (decide (x2.2 < 2))) ∧ H b1 = some (.cells (c34 (api_Head.mk 0 0 0)) 34) ∧ b1 < n) (fun J hJ => ?_) ?_
  · simp [-splice, f0, f4, f7, f8, b_b1]
    exact hJ _ _ _ ⟨by simp [f0], by simp [f4], by simp [f7], by simp [-splice, f0, f4, f7, f8, b_b1], b_b1, l_b1⟩
  clear f0 f4 f7 f8 b_b1 l_b1
  rintro t H n ⟨f0, f4, f7, f20, b_b1, l_b1⟩
  refine Stk.on ?_
  refine Stk.cond (decide (x2.2 < 2)) (by exact f20) (fun hb3 => ?_) (fun hb3 => ?_)
  · have h := cT hb3 h
    refine Stk.sq ?_
    refine Stk.rg ?_
    refine Stk.ov (vop_build T.t34 rfl rfl (cs := c34 (api_Head.mk 0 0 0)) (cs' := c34 (api_Head.mk 0 0 0)) rfl (.nil)) (by simp [f0, f4, f7, f20]) rfl (fun t' ht' => ?_)
    refine Stk.gen (fun t H n => t 4 = .own b1 0 ∧ t 21 = .agg (c34 (api_Head.mk 0 0 0)) ∧ H b1 = some (.cells (c34 (api_Head.mk 0 0 0)) 34) ∧ b1 < n) ⟨by simp [ht', f4], by simp [ht'], b_b1, l_b1⟩ ?_
    clear f0 f4 f7 f20 b_b1 l_b1 ht' t'
    rintro t H n ⟨f4, f21, b_b1, l_b1⟩
    refine Stk.om (mop_store (z := 3) rfl f4 b_b1 f21 (len34 _) (by rw [len34]; decide) (ok34 _) (st_34_0_34 _ _)) (by simp [f4, f21]) rfl (fun t' ht' => ?_)
    refine Stk.gen (fun t H n => t 4 = .own b1 0 ∧ H b1 = some (.cells (c34 (api_Head.mk 0 0 0)) 34) ∧ b1 < n) ⟨by simp [ht', f4], upd_same _ _ _, l_b1⟩ ?_
    clear f4 f21 b_b1 l_b1 ht' t'
    rintro t H n ⟨f4, b_b1, l_b1⟩
    refine Stk.run 2 (fun t H n => t 4 = .own b1 0 ∧ t 5 = .sc (.int .i64 0) ∧ t 6 = .sc (.bool false) ∧ H b1 = some (.cells (c34 (api_Head.mk 0 0 0)) 34) ∧ b1 < n) (fun J hJ => ?_) ?_
    · simp [-splice, f4, b_b1]
      exact hJ _ _ _ ⟨by simp [f4], by simp [-splice, f4, b_b1], by simp [-splice, f4, b_b1], b_b1, l_b1⟩
    clear f4 b_b1 l_b1
    rintro t H n ⟨f4, f5, f6, b_b1, l_b1⟩
    refine Stk.on ?_
    refine Stk.rt ?_
    have hq := Option.some.inj h; subst hq
    exact (hr _ _ _ (.tup [.agg (c34 (api_Head.mk 0 0 0)), .sc (.int .i64 0), .sc (.bool false)]) ([]) (by simp [f4, f5, f6, b_b1, ld_34_0_34]) (.inr (.inr (.tup (.cons (.free (fr34 _)) (.cons (.free (rfl)) (.cons (.free (rfl)) (.nil)))))))).1
  · have h := cF hb3 h
    refine Stk.sk ?_
    refine Stk.sq ?_
    refine Stk.rg ?_
    obtain ⟨x4, hx4, h⟩ := bnd h
    obtain ⟨i0x4, i1x4, i2x4, _⟩ := idx_ok hx4
    have ex4_0_40 : partOf T.T 40 (encs c40 a0.H.Words) ((IntKind.i64.wrap (x2.1 + 1)).toNat) = some (.sc (.int .u64 x4)) := by
        have e0 := part_elem0 (e := c40) (z := 1) (T := T.T) (ty := 40) T.t40 (by decide) (by decide) hx4 0 (by decide)
        (try simp only [Nat.mul_one, Nat.add_zero] at e0)
        exact e0.trans rfl
    refine Stk.run 10 (fun t H n => t 0 = .sh (c176 a0) ∧ t 4 = .own b1 0 ∧ t 23 = .sh (c176 a0) ∧ t 32 = .sc (.int .u64 x4) ∧ H b1 = some (.cells (c34 (api_Head.mk 0 0 0)) 34) ∧ b1 < n) (fun J hJ => ?_) ?_
    · simp [-splice, f0, f4, f7, f20, b_b1, pd39, ld_176_0_39, i0x4, i1x4, pd40, ex4_0_40]
      exact hJ _ _ _ ⟨by simp [f0], by simp [f4], by simp [-splice, f0, f4, f7, f20, b_b1, pd39, ld_176_0_39, i0x4, i1x4, pd40, ex4_0_40], by simp [-splice, f0, f4, f7, f20, b_b1, pd39, ld_176_0_39, i0x4, i1x4, pd40, ex4_0_40], b_b1, l_b1⟩
    clear f0 f4 f7 f20 b_b1 l_b1
    rintro t H n ⟨f0, f4, f23, f32, b_b1, l_b1⟩
    obtain ⟨x5, hx5, h⟩ := bnd h
    refine Stk.cv (g := 152) (args := [.sh (c176 a0), .sc (.int .u64 x4)]) (args' := [.sh (c176 a0), .sc (.int .u64 x4)]) (v := .tup [.sc (.int .i64 x5.1), .sc (.int .i64 x5.2)]) [] (ok_R16_Heap_left F _ _ _ hx5) (by simp [f0, f4, f23, f32]) rfl rfl (by simp [f0, f4, f23, f32]) (.cons (.free (by simp only [free]; exact fr176 _)) (.cons (.free (rfl)) (.nil))) (.inl ⟨rfl, by simp [free, freeL]⟩) (fun t' ht' => ?_)
    refine Stk.gen (fun t H n => t 0 = .sh (c176 a0) ∧ t 4 = .own b1 0 ∧ t 33 = .tup [.sc (.int .i64 x5.1), .sc (.int .i64 x5.2)] ∧ H b1 = some (.cells (c34 (api_Head.mk 0 0 0)) 34) ∧ b1 < n) ⟨by simp [ht', f0], by simp [ht', f4], by simp [ht'], b_b1, l_b1⟩ ?_
    clear f0 f4 f23 f32 b_b1 l_b1 ht' t'
    rintro t H n ⟨f0, f4, f33, b_b1, l_b1⟩
    refine Stk.run 5 (fun t H n => t 0 = .sh (c176 a0) ∧ t 4 = .own b1 0 ∧ t 9 = .sc (.int .i64 x5.1) ∧ t 10 = .sc (.int .i64 x5.2) ∧ H b1 = some (.cells (c34 (api_Head.mk 0 0 0)) 34) ∧ b1 < n) (fun J hJ => ?_) ?_
    · simp [-splice, f0, f4, f33, b_b1]
      exact hJ _ _ _ ⟨by simp [f0], by simp [f4], by simp [-splice, f0, f4, f33, b_b1], by simp [-splice, f0, f4, f33, b_b1], b_b1, l_b1⟩
    clear f0 f4 f33 b_b1 l_b1
    rintro t H n ⟨f0, f4, f9, f10, b_b1, l_b1⟩
    refine Stk.on ?_
    refine Stk.sq ?_
    refine Stk.sq ?_
    refine Stk.rg ?_
    refine Stk.run 2 (fun t H n => t 0 = .sh (c176 a0) ∧ t 4 = .own b1 0 ∧ t 9 = .sc (.int .i64 x5.1) ∧ t 10 = .sc (.int .i64 x5.2) ∧ t 37 = .sc (.bool (decide (x5.2 < 2))) ∧ H b1 = some (.cells (c34 (api_Head.mk 0 0 0)) 34) ∧ b1 < n) (fun J hJ => ?_) ?_
    · simp [-splice, f0, f4, f9, f10, b_b1]
      exact hJ _ _ _ ⟨by simp [f0], by simp [f4], by simp [f9], by simp [f10], by simp [-splice, f0, f4, f9, f10, b_b1], b_b1, l_b1⟩
    clear f0 f4 f9 f10 b_b1 l_b1
    rintro t H n ⟨f0, f4, f9, f10, f37, b_b1, l_b1⟩
    refine Stk.on ?_
    refine Stk.cond (decide (x5.2 < 2)) (by exact f37) (fun hb6 => ?_) (fun hb6 => ?_)
    · have h := cT hb6 h
      refine Stk.sq ?_
      refine Stk.rg ?_
      refine Stk.ov (vop_build T.t34 rfl rfl (cs := c34 (api_Head.mk 0 0 0)) (cs' := c34 (api_Head.mk 0 0 0)) rfl (.nil)) (by simp [f0, f4, f9, f10, f37]) rfl (fun t' ht' => ?_)
      refine Stk.gen (fun t H n => t 4 = .own b1 0 ∧ t 38 = .agg (c34 (api_Head.mk 0 0 0)) ∧ H b1 = some (.cells (c34 (api_Head.mk 0 0 0)) 34) ∧ b1 < n) ⟨by simp [ht', f4], by simp [ht'], b_b1, l_b1⟩ ?_
      clear f0 f4 f9 f10 f37 b_b1 l_b1 ht' t'
      rintro t H n ⟨f4, f38, b_b1, l_b1⟩
      refine Stk.om (mop_store (z := 3) rfl f4 b_b1 f38 (len34 _) (by rw [len34]; decide) (ok34 _) (st_34_0_34 _ _)) (by simp [f4, f38]) rfl (fun t' ht' => ?_)
      refine Stk.gen (fun t H n => t 4 = .own b1 0 ∧ H b1 = some (.cells (c34 (api_Head.mk 0 0 0)) 34) ∧ b1 < n) ⟨by simp [ht', f4], upd_same _ _ _, l_b1⟩ ?_
      clear f4 f38 b_b1 l_b1 ht' t'
      rintro t H n ⟨f4, b_b1, l_b1⟩
      refine Stk.run 2 (fun t H n => t 4 = .own b1 0 ∧ t 5 = .sc (.int .i64 0) ∧ t 6 = .sc (.bool false) ∧ H b1 = some (.cells (c34 (api_Head.mk 0 0 0)) 34) ∧ b1 < n) (fun J hJ => ?_) ?_
      · simp [-splice, f4, b_b1]
        exact hJ _ _ _ ⟨by simp [f4], by simp [-splice, f4, b_b1], by simp [-splice, f4, b_b1], b_b1, l_b1⟩
      clear f4 b_b1 l_b1
      rintro t H n ⟨f4, f5, f6, b_b1, l_b1⟩
      refine Stk.on ?_
      refine Stk.rt ?_
      have hq := Option.some.inj h; subst hq
      exact (hr _ _ _ (.tup [.agg (c34 (api_Head.mk 0 0 0)), .sc (.int .i64 0), .sc (.bool false)]) ([]) (by simp [f4, f5, f6, b_b1, ld_34_0_34]) (.inr (.inr (.tup (.cons (.free (fr34 _)) (.cons (.free (rfl)) (.cons (.free (rfl)) (.nil)))))))).1
    · have h := cF hb6 h
      refine Stk.sk ?_
      refine Stk.sq ?_
      refine Stk.rg ?_
      obtain ⟨x7, hx7, h⟩ := bnd h
      obtain ⟨i0x7, i1x7, i2x7, _⟩ := idx_ok hx7
      have ex7_0_40 : partOf T.T 40 (encs c40 a0.H.Words) (x5.1.toNat) = some (.sc (.int .u64 x7)) := by
          have e0 := part_elem0 (e := c40) (z := 1) (T := T.T) (ty := 40) T.t40 (by decide) (by decide) hx7 0 (by decide)
          (try simp only [Nat.mul_one, Nat.add_zero] at e0)
          exact e0.trans rfl
      refine Stk.run 8 (fun t H n => t 4 = .own b1 0 ∧ t 9 = .sc (.int .i64 x5.1) ∧ t 10 = .sc (.int .i64 x5.2) ∧ t 47 = .sc (.int .u64 x7) ∧ H b1 = some (.cells (c34 (api_Head.mk 0 0 0)) 34) ∧ b1 < n) (fun J hJ => ?_) ?_
      · simp [-splice, f0, f4, f9, f10, f37, b_b1, pd39, ld_176_0_39, i0x7, i1x7, pd40, ex7_0_40]
        exact hJ _ _ _ ⟨by simp [f4], by simp [f9], by simp [f10], by simp [-splice, f0, f4, f9, f10, f37, b_b1, pd39, ld_176_0_39, i0x7, i1x7, pd40, ex7_0_40], b_b1, l_b1⟩
      clear f0 f4 f9 f10 f37 b_b1 l_b1
      rintro t H n ⟨f4, f9, f10, f47, b_b1, l_b1⟩
      obtain ⟨x8, hx8, h⟩ := bnd h
      refine Stk.cv (g := 58) (args := [.sc (.int .u64 x7)]) (args' := [.sc (.int .u64 x7)]) (v := .tup [.agg (c34 x8.1), .sc (.bool x8.2)]) [] (ok_R16_Read F _ _ hx8) (by simp [f4, f9, f10, f47]) rfl rfl (by simp [f4, f9, f10, f47]) (.cons (.free (rfl)) (.nil)) (.inl ⟨rfl, by simp [free, freeL, fr34]⟩) (fun t' ht' => ?_)
      refine Stk.gen (fun t H n => t 4 = .own b1 0 ∧ t 9 = .sc (.int .i64 x5.1) ∧ t 10 = .sc (.int .i64 x5.2) ∧ t 48 = .tup [.agg (c34 x8.1), .sc (.bool x8.2)] ∧ H b1 = some (.cells (c34 (api_Head.mk 0 0 0)) 34) ∧ b1 < n) ⟨by simp [ht', f4], by simp [ht', f9], by simp [ht', f10], by simp [ht'], b_b1, l_b1⟩ ?_
      clear f4 f9 f10 f47 b_b1 l_b1 ht' t'
      rintro t H n ⟨f4, f9, f10, f48, b_b1, l_b1⟩
      refine Stk.run 3 (fun t H n => t 4 = .own b1 0 ∧ t 9 = .sc (.int .i64 x5.1) ∧ t 10 = .sc (.int .i64 x5.2) ∧ t 49 = .agg (c34 x8.1) ∧ t 50 = .sc (.bool x8.2) ∧ H b1 = some (.cells (c34 (api_Head.mk 0 0 0)) 34) ∧ b1 < n) (fun J hJ => ?_) ?_
      · simp [-splice, f4, f9, f10, f48, b_b1]
        exact hJ _ _ _ ⟨by simp [f4], by simp [f9], by simp [f10], by simp [-splice, f4, f9, f10, f48, b_b1], by simp [-splice, f4, f9, f10, f48, b_b1], b_b1, l_b1⟩
      clear f4 f9 f10 f48 b_b1 l_b1
      rintro t H n ⟨f4, f9, f10, f49, f50, b_b1, l_b1⟩
      refine Stk.om (mop_alloc T.t34 (cs := c34 (api_Head.mk 0 0 0)) rfl) (by simp [f4, f9, f10, f49, f50]) rfl (fun t' ht' => ?_)
      refine Stk.gen (fun t H n => ∃ b9, t 4 = .own b1 0 ∧ t 9 = .sc (.int .i64 x5.1) ∧ t 10 = .sc (.int .i64 x5.2) ∧ t 11 = .own b9 0 ∧ t 49 = .agg (c34 x8.1) ∧ t 50 = .sc (.bool x8.2) ∧ H b1 = some (.cells (c34 (api_Head.mk 0 0 0)) 34) ∧ b1 < n ∧ H b9 = some (.cells (c34 (api_Head.mk 0 0 0)) 34) ∧ b9 < n ∧ b1 ≠ b9) ⟨n, by simp [ht', f4], by simp [ht', f9], by simp [ht', f10], by simp [ht'], by simp [ht', f49], by simp [ht', f50], (upd_ne _ _ (Nat.ne_of_lt l_b1)).trans b_b1, Nat.lt_succ_of_lt l_b1, upd_same _ _ _, Nat.lt_succ_self _, Nat.ne_of_lt l_b1⟩ ?_
      clear f4 f9 f10 f49 f50 b_b1 l_b1 ht' t'
      rintro t H n ⟨b9, f4, f9, f10, f11, f49, f50, b_b1, l_b1, b_b9, l_b9, d_b1_b9⟩
      refine Stk.om (mop_store (z := 3) rfl f11 b_b9 f49 (len34 _) (by rw [len34]; decide) (ok34 _) (st_34_0_34 _ _)) (by simp [f4, f9, f10, f11, f49, f50]) rfl (fun t' ht' => ?_)
      refine Stk.gen (fun t H n => t 4 = .own b1 0 ∧ t 9 = .sc (.int .i64 x5.1) ∧ t 10 = .sc (.int .i64 x5.2) ∧ t 11 = .own b9 0 ∧ t 50 = .sc (.bool x8.2) ∧ H b1 = some (.cells (c34 (api_Head.mk 0 0 0)) 34) ∧ b1 < n ∧ H b9 = some (.cells (c34 x8.1) 34) ∧ b9 < n ∧ b1 ≠ b9) ⟨by simp [ht', f4], by simp [ht', f9], by simp [ht', f10], by simp [ht', f11], by simp [ht', f50], (upd_ne _ _ d_b1_b9).trans b_b1, l_b1, upd_same _ _ _, l_b9, d_b1_b9⟩ ?_
      clear f4 f9 f10 f11 f49 f50 b_b1 l_b1 b_b9 l_b9 d_b1_b9 ht' t'
      rintro t H n ⟨f4, f9, f10, f11, f50, b_b1, l_b1, b_b9, l_b9, d_b1_b9⟩
      refine Stk.run 1 (fun t H n => t 4 = .own b1 0 ∧ t 9 = .sc (.int .i64 x5.1) ∧ t 10 = .sc (.int .i64 x5.2) ∧ t 11 = .own b9 0 ∧ t 12 = .sc (.bool x8.2) ∧ H b1 = some (.cells (c34 (api_Head.mk 0 0 0)) 34) ∧ b1 < n ∧ H b9 = some (.cells (c34 x8.1) 34) ∧ b9 < n ∧ b1 ≠ b9) (fun J hJ => ?_) ?_
      · simp [-splice, f4, f9, f10, f11, f50, b_b1, b_b9]
        exact hJ _ _ _ ⟨by simp [f4], by simp [f9], by simp [f10], by simp [f11], by simp [-splice, f4, f9, f10, f11, f50, b_b1, b_b9], b_b1, l_b1, b_b9, l_b9, d_b1_b9⟩
      clear f4 f9 f10 f11 f50 b_b1 l_b1 b_b9 l_b9 d_b1_b9
      rintro t H n ⟨f4, f9, f10, f11, f12, b_b1, l_b1, b_b9, l_b9, d_b1_b9⟩
      refine Stk.on ?_
      refine Stk.sq ?_
      refine Stk.sq ?_
      refine Stk.rg ?_
      refine Stk.run 3 (fun t H n => t 4 = .own b1 0 ∧ t 9 = .sc (.int .i64 x5.1) ∧ t 10 = .sc (.int .i64 x5.2) ∧ t 11 = .own b9 0 ∧ t 53 = .sc (.bool (!x8.2)) ∧ H b1 = some (.cells (c34 (api_Head.mk 0 0 0)) 34) ∧ b1 < n ∧ H b9 = some (.cells (c34 x8.1) 34) ∧ b9 < n ∧ b1 ≠ b9) (fun J hJ => ?_) ?_
      · simp [-splice, f4, f9, f10, f11, f12, b_b1, b_b9]
        exact hJ _ _ _ ⟨by simp [f4], by simp [f9], by simp [f10], by simp [f11], by simp [-splice, f4, f9, f10, f11, f12, b_b1, b_b9], b_b1, l_b1, b_b9, l_b9, d_b1_b9⟩
      clear f4 f9 f10 f11 f12 b_b1 l_b1 b_b9 l_b9 d_b1_b9
      rintro t H n ⟨f4, f9, f10, f11, f53, b_b1, l_b1, b_b9, l_b9, d_b1_b9⟩
      obtain ⟨K1, hK1, h⟩ := jnd h
      refine Stk.jo 5 (fun t H n => ∃ v10 : Bool, K1 v10 = some r ∧ t 4 = .own b1 0 ∧ t 9 = .sc (.int .i64 x5.1) ∧ t 11 = .own b9 0 ∧ t 58 = .sc (.bool v10) ∧ H b1 = some (.cells (c34 (api_Head.mk 0 0 0)) 34) ∧ b1 < n ∧ H b9 = some (.cells (c34 x8.1) 34) ∧ b9 < n ∧ b1 ≠ b9) (fun J1 hJ1 => ?_) ?_
      · rcases Bool.eq_false_or_eq_true (!x8.2) with hb1 | hb1
        · rw [hb1] at f53
          replace h := cT hb1 h
          refine Stk.run 5 (fun t H n => t 4 = .own b1 0 ∧ t 9 = .sc (.int .i64 x5.1) ∧ t 11 = .own b9 0 ∧ t 58 = .sc (.bool true) ∧ H b1 = some (.cells (c34 (api_Head.mk 0 0 0)) 34) ∧ b1 < n ∧ H b9 = some (.cells (c34 x8.1) 34) ∧ b9 < n ∧ b1 ≠ b9) (fun J hJ => ?_) ?_
          · simp [-splice, f4, f9, f10, f11, f53, b_b1, b_b9]
            exact hJ _ _ _ ⟨by simp [f4], by simp [f9], by simp [f11], by simp [-splice, f4, f9, f10, f11, f53, b_b1, b_b9], b_b1, l_b1, b_b9, l_b9, d_b1_b9⟩
          clear f4 f9 f10 f11 f53 b_b1 l_b1 b_b9 l_b9 d_b1_b9
          rintro t H n ⟨f4, f9, f11, f58, b_b1, l_b1, b_b9, l_b9, d_b1_b9⟩
          refine Stk.on ?_
          exact Stk.ln 0 (by decide) (hJ1 _ _ _ ⟨true, h, f4, f9, f11, f58, b_b1, l_b1, b_b9, l_b9, d_b1_b9⟩)
        · rw [hb1] at f53
          replace h := cF hb1 h
          refine Stk.run 1 (fun t H n => t 4 = .own b1 0 ∧ t 9 = .sc (.int .i64 x5.1) ∧ t 10 = .sc (.int .i64 x5.2) ∧ t 11 = .own b9 0 ∧ t 53 = .sc (.bool false) ∧ t 54 = .agg (c34 x8.1) ∧ H b1 = some (.cells (c34 (api_Head.mk 0 0 0)) 34) ∧ b1 < n ∧ H b9 = some (.cells (c34 x8.1) 34) ∧ b9 < n ∧ b1 ≠ b9) (fun J hJ => ?_) ?_
          · simp [-splice, f4, f9, f10, f11, f53, b_b1, b_b9, ld_34_0_34]
            exact hJ _ _ _ ⟨by simp [f4], by simp [f9], by simp [f10], by simp [f11], by simp [f53], by simp [-splice, f4, f9, f10, f11, f53, b_b1, b_b9, ld_34_0_34], b_b1, l_b1, b_b9, l_b9, d_b1_b9⟩
          clear f4 f9 f10 f11 f53 b_b1 l_b1 b_b9 l_b9 d_b1_b9
          rintro t H n ⟨f4, f9, f10, f11, f53, f54, b_b1, l_b1, b_b9, l_b9, d_b1_b9⟩
          obtain ⟨x11, hx11, h⟩ := bnd h
          refine Stk.cv (g := 36) (args := [.agg (c34 x8.1)]) (args' := [.agg (c34 x8.1)]) (v := .sc (.int .i64 x11)) [] (ok_R16_Size F _ _ hx11) (by simp [f4, f9, f10, f11, f53, f54]) rfl rfl (by simp [f4, f9, f10, f11, f53, f54]) (.cons (.free (fr34 _)) (.nil)) (.inl ⟨rfl, rfl⟩) (fun t' ht' => ?_)
          refine Stk.gen (fun t H n => t 4 = .own b1 0 ∧ t 9 = .sc (.int .i64 x5.1) ∧ t 10 = .sc (.int .i64 x5.2) ∧ t 11 = .own b9 0 ∧ t 53 = .sc (.bool false) ∧ t 55 = .sc (.int .i64 x11) ∧ H b1 = some (.cells (c34 (api_Head.mk 0 0 0)) 34) ∧ b1 < n ∧ H b9 = some (.cells (c34 x8.1) 34) ∧ b9 < n ∧ b1 ≠ b9) ⟨by simp [ht', f4], by simp [ht', f9], by simp [ht', f10], by simp [ht', f11], by simp [ht', f53], by simp [ht'], b_b1, l_b1, b_b9, l_b9, d_b1_b9⟩ ?_
          clear f4 f9 f10 f11 f53 f54 b_b1 l_b1 b_b9 l_b9 d_b1_b9 ht' t'
          rintro t H n ⟨f4, f9, f10, f11, f53, f55, b_b1, l_b1, b_b9, l_b9, d_b1_b9⟩
          refine Stk.run 3 (fun t H n => t 4 = .own b1 0 ∧ t 9 = .sc (.int .i64 x5.1) ∧ t 11 = .own b9 0 ∧ t 58 = .sc (.bool (decide (x5.2 < x11))) ∧ H b1 = some (.cells (c34 (api_Head.mk 0 0 0)) 34) ∧ b1 < n ∧ H b9 = some (.cells (c34 x8.1) 34) ∧ b9 < n ∧ b1 ≠ b9) (fun J hJ => ?_) ?_
          · simp [-splice, f4, f9, f10, f11, f53, f55, b_b1, b_b9]
            exact hJ _ _ _ ⟨by simp [f4], by simp [f9], by simp [f11], by simp [-splice, f4, f9, f10, f11, f53, f55, b_b1, b_b9], b_b1, l_b1, b_b9, l_b9, d_b1_b9⟩
          clear f4 f9 f10 f11 f53 f55 b_b1 l_b1 b_b9 l_b9 d_b1_b9
          rintro t H n ⟨f4, f9, f11, f58, b_b1, l_b1, b_b9, l_b9, d_b1_b9⟩
          refine Stk.on ?_
          exact Stk.ln 0 (by decide) (hJ1 _ _ _ ⟨(decide (x5.2 < x11)), h, f4, f9, f11, f58, b_b1, l_b1, b_b9, l_b9, d_b1_b9⟩)
      clear h f4 f9 f10 f11 f53 b_b1 l_b1 b_b9 l_b9 d_b1_b9
      rintro t H n ⟨v10, h, f4, f9, f11, f58, b_b1, l_b1, b_b9, l_b9, d_b1_b9⟩
      subst hK1
      refine Stk.on ?_
      refine Stk.cond v10 (by exact f58) (fun hb12 => ?_) (fun hb12 => ?_)
      · have h := cT hb12 h
        refine Stk.sq ?_
        refine Stk.rg ?_
        refine Stk.ov (vop_build T.t34 rfl rfl (cs := c34 (api_Head.mk 0 0 0)) (cs' := c34 (api_Head.mk 0 0 0)) rfl (.nil)) (by simp [f4, f9, f11, f58]) rfl (fun t' ht' => ?_)
        refine Stk.gen (fun t H n => t 4 = .own b1 0 ∧ t 59 = .agg (c34 (api_Head.mk 0 0 0)) ∧ H b1 = some (.cells (c34 (api_Head.mk 0 0 0)) 34) ∧ b1 < n) ⟨by simp [ht', f4], by simp [ht'], b_b1, l_b1⟩ ?_
        clear f4 f9 f11 f58 b_b1 l_b1 b_b9 l_b9 d_b1_b9 ht' t'
        rintro t H n ⟨f4, f59, b_b1, l_b1⟩
        refine Stk.om (mop_store (z := 3) rfl f4 b_b1 f59 (len34 _) (by rw [len34]; decide) (ok34 _) (st_34_0_34 _ _)) (by simp [f4, f59]) rfl (fun t' ht' => ?_)
        refine Stk.gen (fun t H n => t 4 = .own b1 0 ∧ H b1 = some (.cells (c34 (api_Head.mk 0 0 0)) 34) ∧ b1 < n) ⟨by simp [ht', f4], upd_same _ _ _, l_b1⟩ ?_
        clear f4 f59 b_b1 l_b1 ht' t'
        rintro t H n ⟨f4, b_b1, l_b1⟩
        refine Stk.run 2 (fun t H n => t 4 = .own b1 0 ∧ t 5 = .sc (.int .i64 0) ∧ t 6 = .sc (.bool false) ∧ H b1 = some (.cells (c34 (api_Head.mk 0 0 0)) 34) ∧ b1 < n) (fun J hJ => ?_) ?_
        · simp [-splice, f4, b_b1]
          exact hJ _ _ _ ⟨by simp [f4], by simp [-splice, f4, b_b1], by simp [-splice, f4, b_b1], b_b1, l_b1⟩
        clear f4 b_b1 l_b1
        rintro t H n ⟨f4, f5, f6, b_b1, l_b1⟩
        refine Stk.on ?_
        refine Stk.rt ?_
        have hq := Option.some.inj h; subst hq
        exact (hr _ _ _ (.tup [.agg (c34 (api_Head.mk 0 0 0)), .sc (.int .i64 0), .sc (.bool false)]) ([]) (by simp [f4, f5, f6, b_b1, ld_34_0_34]) (.inr (.inr (.tup (.cons (.free (fr34 _)) (.cons (.free (rfl)) (.cons (.free (rfl)) (.nil)))))))).1
      · have h := cF hb12 h
        refine Stk.sk ?_
        refine Stk.sq ?_
        refine Stk.rg ?_
        refine Stk.run 2 (fun t H n => t 4 = .own b1 0 ∧ t 60 = .agg (c34 x8.1) ∧ t 61 = .sc (.int .i64 x5.1) ∧ H b1 = some (.cells (c34 (api_Head.mk 0 0 0)) 34) ∧ b1 < n) (fun J hJ => ?_) ?_
        · simp [-splice, f4, f9, f11, f58, b_b1, b_b9, ld_34_0_34]
          exact hJ _ _ _ ⟨by simp [f4], by simp [-splice, f4, f9, f11, f58, b_b1, b_b9, ld_34_0_34], by simp [-splice, f4, f9, f11, f58, b_b1, b_b9, ld_34_0_34], b_b1, l_b1⟩
        clear f4 f9 f11 f58 b_b1 l_b1 b_b9 l_b9 d_b1_b9
        rintro t H n ⟨f4, f60, f61, b_b1, l_b1⟩
        refine Stk.om (mop_store (z := 3) rfl f4 b_b1 f60 (len34 _) (by rw [len34]; decide) (ok34 _) (st_34_0_34 _ _)) (by simp [f4, f60, f61]) rfl (fun t' ht' => ?_)
        refine Stk.gen (fun t H n => t 4 = .own b1 0 ∧ t 61 = .sc (.int .i64 x5.1) ∧ H b1 = some (.cells (c34 x8.1) 34) ∧ b1 < n) ⟨by simp [ht', f4], by simp [ht', f61], upd_same _ _ _, l_b1⟩ ?_
        clear f4 f60 f61 b_b1 l_b1 ht' t'
        rintro t H n ⟨f4, f61, b_b1, l_b1⟩
        refine Stk.run 2 (fun t H n => t 4 = .own b1 0 ∧ t 5 = .sc (.int .i64 x5.1) ∧ t 6 = .sc (.bool true) ∧ H b1 = some (.cells (c34 x8.1) 34) ∧ b1 < n) (fun J hJ => ?_) ?_
        · simp [-splice, f4, f61, b_b1]
          exact hJ _ _ _ ⟨by simp [f4], by simp [-splice, f4, f61, b_b1], by simp [-splice, f4, f61, b_b1], b_b1, l_b1⟩
        clear f4 f61 b_b1 l_b1
        rintro t H n ⟨f4, f5, f6, b_b1, l_b1⟩
        refine Stk.on ?_
        refine Stk.rt ?_
        have hq := Option.some.inj h; subst hq
        exact (hr _ _ _ (.tup [.agg (c34 x8.1), .sc (.int .i64 x5.1), .sc (.bool true)]) ([]) (by simp [f4, f5, f6, b_b1, ld_34_0_34]) (.inr (.inr (.tup (.cons (.free (fr34 _)) (.cons (.free (rfl)) (.cons (.free (rfl)) (.nil)))))))).1
theorem ok_R16_Heap_Look (F : Nat) (a0 : handloomref16_Heap) (a1 : Int) (r : (api_Head × Int)) (h : R16_Heap_Look F a0 a1 = some r) : RunF Try.prog T.T 124 [.sh (c176 a0), .sc (.int .u64 a1)] (.tup [.agg (c34 r.1), .sc (.int .i64 r.2)]) := by
  rw [R16_Heap_Look] at h
  refine RunF.z Try.func124 rfl rfl rfl rfl rfl (fun C hr => ?_)
  refine Stk.gen (fun t H n => t 0 = .sh (c176 a0) ∧ t 1 = .sc (.int .u64 a1)) ⟨by simp, by simp⟩ ?_
  rintro t H n ⟨f0, f1⟩
  refine Stk.sq ?_
  refine Stk.rg ?_
  refine Stk.om (mop_alloc T.t34 (cs := c34 (api_Head.mk 0 0 0)) rfl) (by simp [f0, f1]) rfl (fun t' ht' => ?_)
  refine Stk.gen (fun t H n => ∃ b1, t 0 = .sh (c176 a0) ∧ t 1 = .sc (.int .u64 a1) ∧ t 4 = .own b1 0 ∧ H b1 = some (.cells (c34 (api_Head.mk 0 0 0)) 34) ∧ b1 < n) ⟨n, by simp [ht', f0], by simp [ht', f1], by simp [ht'], upd_same _ _ _, Nat.lt_succ_self _⟩ ?_
  clear f0 f1 ht' t'
  rintro t H n ⟨b1, f0, f1, f4, b_b1, l_b1⟩
  refine Stk.run 1 (fun t H n => t 0 = .sh (c176 a0) ∧ t 1 = .sc (.int .u64 a1) ∧ t 4 = .own b1 0 ∧ H b1 = some (.cells (c34 (api_Head.mk 0 0 0)) 34) ∧ b1 < n) (fun J hJ => ?_) ?_
  · simp [-splice, f0, f1, f4, b_b1]
    exact hJ _ _ _ ⟨by simp [f0], by simp [f1], by simp [f4], b_b1, l_b1⟩
  clear f0 f1 f4 b_b1 l_b1
  rintro t H n ⟨f0, f1, f4, b_b1, l_b1⟩
  refine Stk.on ?_
  refine Stk.sq ?_
  refine Stk.sq ?_
  refine Stk.rg ?_
  refine Stk.run 2 (fun t H n => t 0 = .sh (c176 a0) ∧ t 1 = .sc (.int .u64 a1) ∧ t 4 = .own b1 0 ∧ t 10 = .sc (.bool false) ∧ H b1 = some (.cells (c34 (api_Head.mk 0 0 0)) 34) ∧ b1 < n) (fun J hJ => ?_) ?_
  · simp [-splice, f0, f1, f4, b_b1, eqPS108, eqPO108]
    exact hJ _ _ _ ⟨by simp [f0], by simp [f1], by simp [f4], by simp [-splice, f0, f1, f4, b_b1, eqPS108, eqPO108], b_b1, l_b1⟩
  clear f0 f1 f4 b_b1 l_b1
  rintro t H n ⟨f0, f1, f4, f10, b_b1, l_b1⟩
  refine Stk.on ?_
  refine Stk.cond false (by simp [f10]) (fun hb => ?_) (fun hb => ?_)
  · cases hb
  refine Stk.sk ?_
  refine Stk.sq ?_
  refine Stk.rg ?_
  refine Stk.run 2 (fun t H n => t 4 = .own b1 0 ∧ t 13 = .sh (c176 a0) ∧ t 14 = .sc (.int .u64 a1) ∧ H b1 = some (.cells (c34 (api_Head.mk 0 0 0)) 34) ∧ b1 < n) (fun J hJ => ?_) ?_
  · simp [-splice, f0, f1, f4, f10, b_b1]
    exact hJ _ _ _ ⟨by simp [f4], by simp [-splice, f0, f1, f4, f10, b_b1], by simp [-splice, f0, f1, f4, f10, b_b1], b_b1, l_b1⟩
  clear f0 f1 f4 f10 b_b1 l_b1
  rintro t H n ⟨f4, f13, f14, b_b1, l_b1⟩
  obtain ⟨x2, hx2, h⟩ := bnd h
  refine Stk.cv (g := 145) (args := [.sh (c176 a0), .sc (.int .u64 a1)]) (args' := [.sh (c176 a0), .sc (.int .u64 a1)]) (v := .tup [.agg (c34 x2.1), .sc (.int .i64 x2.2.1), .sc (.bool x2.2.2)]) [] (ok_R16_Heap_record F _ _ _ hx2) (by simp [f4, f13, f14]) rfl rfl (by simp [f4, f13, f14]) (.cons (.free (by simp only [free]; exact fr176 _)) (.cons (.free (rfl)) (.nil))) (.inl ⟨rfl, by simp [free, freeL, fr34]⟩) (fun t' ht' => ?_)
  refine Stk.gen (fun t H n => t 4 = .own b1 0 ∧ t 15 = .tup [.agg (c34 x2.1), .sc (.int .i64 x2.2.1), .sc (.bool x2.2.2)] ∧ H b1 = some (.cells (c34 (api_Head.mk 0 0 0)) 34) ∧ b1 < n) ⟨by simp [ht', f4], by simp [ht'], b_b1, l_b1⟩ ?_
  clear f4 f13 f14 b_b1 l_b1 ht' t'
  rintro t H n ⟨f4, f15, b_b1, l_b1⟩
  refine Stk.run 4 (fun t H n => t 4 = .own b1 0 ∧ t 16 = .agg (c34 x2.1) ∧ t 17 = .sc (.int .i64 x2.2.1) ∧ t 18 = .sc (.bool x2.2.2) ∧ H b1 = some (.cells (c34 (api_Head.mk 0 0 0)) 34) ∧ b1 < n) (fun J hJ => ?_) ?_
  · simp [-splice, f4, f15, b_b1]
    exact hJ _ _ _ ⟨by simp [f4], by simp [-splice, f4, f15, b_b1], by simp [-splice, f4, f15, b_b1], by simp [-splice, f4, f15, b_b1], b_b1, l_b1⟩
  clear f4 f15 b_b1 l_b1
  rintro t H n ⟨f4, f16, f17, f18, b_b1, l_b1⟩
  refine Stk.om (mop_alloc T.t34 (cs := c34 (api_Head.mk 0 0 0)) rfl) (by simp [f4, f16, f17, f18]) rfl (fun t' ht' => ?_)
  refine Stk.gen (fun t H n => ∃ b3, t 4 = .own b1 0 ∧ t 6 = .own b3 0 ∧ t 16 = .agg (c34 x2.1) ∧ t 17 = .sc (.int .i64 x2.2.1) ∧ t 18 = .sc (.bool x2.2.2) ∧ H b1 = some (.cells (c34 (api_Head.mk 0 0 0)) 34) ∧ b1 < n ∧ H b3 = some (.cells (c34 (api_Head.mk 0 0 0)) 34) ∧ b3 < n ∧ b1 ≠ b3) ⟨n, by simp [ht', f4], by simp [ht'], by simp [ht', f16], by simp [ht', f17], by simp [ht', f18], (upd_ne _ _ (Nat.ne_of_lt l_b1)).trans b_b1, Nat.lt_succ_of_lt l_b1, upd_same _ _ _, Nat.lt_succ_self _, Nat.ne_of_lt l_b1⟩ ?_
  clear f4 f16 f17 f18 b_b1 l_b1 ht' t'
  rintro t H n ⟨b3, f4, f6, f16, f17, f18, b_b1, l_b1, b_b3, l_b3, d_b1_b3⟩
  refine Stk.om (mop_store (z := 3) rfl f6 b_b3 f16 (len34 _) (by rw [len34]; decide) (ok34 _) (st_34_0_34 _ _)) (by simp [f4, f6, f16, f17, f18]) rfl (fun t' ht' => ?_)
  refine Stk.gen (fun t H n => t 4 = .own b1 0 ∧ t 6 = .own b3 0 ∧ t 17 = .sc (.int .i64 x2.2.1) ∧ t 18 = .sc (.bool x2.2.2) ∧ H b1 = some (.cells (c34 (api_Head.mk 0 0 0)) 34) ∧ b1 < n ∧ H b3 = some (.cells (c34 x2.1) 34) ∧ b3 < n ∧ b1 ≠ b3) ⟨by simp [ht', f4], by simp [ht', f6], by simp [ht', f17], by simp [ht', f18], (upd_ne _ _ d_b1_b3).trans b_b1, l_b1, upd_same _ _ _, l_b3, d_b1_b3⟩ ?_
  clear f4 f6 f16 f17 f18 b_b1 l_b1 b_b3 l_b3 d_b1_b3 ht' t'
  rintro t H n ⟨f4, f6, f17, f18, b_b1, l_b1, b_b3, l_b3, d_b1_b3⟩
  refine Stk.run 2 (fun t H n => t 4 = .own b1 0 ∧ t 6 = .own b3 0 ∧ t 8 = .sc (.bool x2.2.2) ∧ H b1 = some (.cells (c34 (api_Head.mk 0 0 0)) 34) ∧ b1 < n ∧ H b3 = some (.cells (c34 x2.1) 34) ∧ b3 < n ∧ b1 ≠ b3) (fun J hJ => ?_) ?_
  · simp [-splice, f4, f6, f17, f18, b_b1, b_b3]
    exact hJ _ _ _ ⟨by simp [f4], by simp [f6], by simp [-splice, f4, f6, f17, f18, b_b1, b_b3], b_b1, l_b1, b_b3, l_b3, d_b1_b3⟩
  clear f4 f6 f17 f18 b_b1 l_b1 b_b3 l_b3 d_b1_b3
  rintro t H n ⟨f4, f6, f8, b_b1, l_b1, b_b3, l_b3, d_b1_b3⟩
  refine Stk.on ?_
  refine Stk.sq ?_
  refine Stk.sq ?_
  refine Stk.rg ?_
  refine Stk.run 2 (fun t H n => t 4 = .own b1 0 ∧ t 6 = .own b3 0 ∧ t 20 = .sc (.bool (!x2.2.2)) ∧ H b1 = some (.cells (c34 (api_Head.mk 0 0 0)) 34) ∧ b1 < n ∧ H b3 = some (.cells (c34 x2.1) 34) ∧ b3 < n ∧ b1 ≠ b3) (fun J hJ => ?_) ?_
  · simp [-splice, f4, f6, f8, b_b1, b_b3]
    exact hJ _ _ _ ⟨by simp [f4], by simp [f6], by simp [-splice, f4, f6, f8, b_b1, b_b3], b_b1, l_b1, b_b3, l_b3, d_b1_b3⟩
  clear f4 f6 f8 b_b1 l_b1 b_b3 l_b3 d_b1_b3
  rintro t H n ⟨f4, f6, f20, b_b1, l_b1, b_b3, l_b3, d_b1_b3⟩
  refine Stk.on ?_
  refine Stk.cond (!x2.2.2) (by exact f20) (fun hb4 => ?_) (fun hb4 => ?_)
  · have h := cT hb4 h
    refine Stk.sq ?_
    refine Stk.rg ?_
    refine Stk.ov (vop_build T.t34 rfl rfl (cs := c34 (api_Head.mk 0 0 0)) (cs' := c34 (api_Head.mk 0 0 0)) rfl (.nil)) (by simp [f4, f6, f20]) rfl (fun t' ht' => ?_)
    refine Stk.gen (fun t H n => t 4 = .own b1 0 ∧ t 21 = .agg (c34 (api_Head.mk 0 0 0)) ∧ H b1 = some (.cells (c34 (api_Head.mk 0 0 0)) 34) ∧ b1 < n) ⟨by simp [ht', f4], by simp [ht'], b_b1, l_b1⟩ ?_
    clear f4 f6 f20 b_b1 l_b1 b_b3 l_b3 d_b1_b3 ht' t'
    rintro t H n ⟨f4, f21, b_b1, l_b1⟩
    refine Stk.om (mop_store (z := 3) rfl f4 b_b1 f21 (len34 _) (by rw [len34]; decide) (ok34 _) (st_34_0_34 _ _)) (by simp [f4, f21]) rfl (fun t' ht' => ?_)
    refine Stk.gen (fun t H n => t 4 = .own b1 0 ∧ H b1 = some (.cells (c34 (api_Head.mk 0 0 0)) 34) ∧ b1 < n) ⟨by simp [ht', f4], upd_same _ _ _, l_b1⟩ ?_
    clear f4 f21 b_b1 l_b1 ht' t'
    rintro t H n ⟨f4, b_b1, l_b1⟩
    refine Stk.run 1 (fun t H n => t 4 = .own b1 0 ∧ t 5 = .sc (.int .i64 22) ∧ H b1 = some (.cells (c34 (api_Head.mk 0 0 0)) 34) ∧ b1 < n) (fun J hJ => ?_) ?_
    · simp [-splice, f4, b_b1]
      exact hJ _ _ _ ⟨by simp [f4], by simp [-splice, f4, b_b1], b_b1, l_b1⟩
    clear f4 b_b1 l_b1
    rintro t H n ⟨f4, f5, b_b1, l_b1⟩
    refine Stk.on ?_
    refine Stk.rt ?_
    have hq := Option.some.inj h; subst hq
    exact (hr _ _ _ (.tup [.agg (c34 (api_Head.mk 0 0 0)), .sc (.int .i64 22)]) ([]) (by simp [f4, f5, b_b1, ld_34_0_34]) (.inr (.inr (.tup (.cons (.free (fr34 _)) (.cons (.free (rfl)) (.nil))))))).1
  · have h := cF hb4 h
    refine Stk.sk ?_
    refine Stk.sq ?_
    refine Stk.rg ?_
    refine Stk.run 1 (fun t H n => t 4 = .own b1 0 ∧ t 22 = .agg (c34 x2.1) ∧ H b1 = some (.cells (c34 (api_Head.mk 0 0 0)) 34) ∧ b1 < n) (fun J hJ => ?_) ?_
    · simp [-splice, f4, f6, f20, b_b1, b_b3, ld_34_0_34]
      exact hJ _ _ _ ⟨by simp [f4], by simp [-splice, f4, f6, f20, b_b1, b_b3, ld_34_0_34], b_b1, l_b1⟩
    clear f4 f6 f20 b_b1 l_b1 b_b3 l_b3 d_b1_b3
    rintro t H n ⟨f4, f22, b_b1, l_b1⟩
    refine Stk.om (mop_store (z := 3) rfl f4 b_b1 f22 (len34 _) (by rw [len34]; decide) (ok34 _) (st_34_0_34 _ _)) (by simp [f4, f22]) rfl (fun t' ht' => ?_)
    refine Stk.gen (fun t H n => t 4 = .own b1 0 ∧ H b1 = some (.cells (c34 x2.1) 34) ∧ b1 < n) ⟨by simp [ht', f4], upd_same _ _ _, l_b1⟩ ?_
    clear f4 f22 b_b1 l_b1 ht' t'
    rintro t H n ⟨f4, b_b1, l_b1⟩
    refine Stk.run 1 (fun t H n => t 4 = .own b1 0 ∧ t 5 = .sc (.int .i64 0) ∧ H b1 = some (.cells (c34 x2.1) 34) ∧ b1 < n) (fun J hJ => ?_) ?_
    · simp [-splice, f4, b_b1]
      exact hJ _ _ _ ⟨by simp [f4], by simp [-splice, f4, b_b1], b_b1, l_b1⟩
    clear f4 b_b1 l_b1
    rintro t H n ⟨f4, f5, b_b1, l_b1⟩
    refine Stk.on ?_
    refine Stk.rt ?_
    have hq := Option.some.inj h; subst hq
    exact (hr _ _ _ (.tup [.agg (c34 x2.1), .sc (.int .i64 0)]) ([]) (by simp [f4, f5, b_b1, ld_34_0_34]) (.inr (.inr (.tup (.cons (.free (fr34 _)) (.cons (.free (rfl)) (.nil))))))).1
end Go.Proofs.Ytfflojbgikfbmaa.M
