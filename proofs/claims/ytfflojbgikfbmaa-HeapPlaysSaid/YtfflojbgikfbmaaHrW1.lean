/-
  The functions come to them.
-/
import Derived.Test.YtfflojbgikfbmaaHrM
import Derived.Test.YtfflojbgikfbmaaHrW0
namespace Go.Proofs.Ytfflojbgikfbmaa.M
open Go.Proofs.YtfflojbgikfbmaaW.Ah Go.Proofs.Ytfflojbgikfbmaa
set_option linter.unusedVariables false
set_option linter.unusedSimpArgs false
set_option maxRecDepth 8000
attribute [local simp] T.t3 T.t4 T.t5 T.t9 T.t34 T.t35 T.t39 T.t40 T.t70 T.t93 T.t108 T.t148 T.t176 List.range List.range.loop
attribute [-simp] appendAV fillAV
theorem ok_R16_Heap_field (F : Nat) (a0 : handloomref16_Heap) (a1 : Int) (a2 : Int) (r : (Int × Int)) (h : R16_Heap_field F a0 a1 a2 = some r) : RunF Try.prog T.T 146 [.sh (c176 a0), .sc (.int .u64 a1), .sc (.int .i64 a2)] (.tup [.sc (.int .i64 r.1), .sc (.int .i64 r.2)]) := by
  rw [R16_Heap_field] at h
  refine RunF.z Try.func146 rfl rfl rfl rfl rfl (fun C hr => ?_)
  refine Stk.gen (fun t H n => t 0 = .sh (c176 a0) ∧ t 1 = .sc (.int .u64 a1) ∧ t 2 = .sc (.int .i64 a2)) ⟨by simp, by simp, by simp⟩ ?_
  rintro t H n ⟨f0, f1, f2⟩
  refine Stk.sq ?_
  refine Stk.rg ?_
  refine Stk.run 2 (fun t H n => t 0 = .sh (c176 a0) ∧ t 1 = .sc (.int .u64 a1) ∧ t 2 = .sc (.int .i64 a2)) (fun J hJ => ?_) ?_
  · simp [-splice, f0, f1, f2]
    exact hJ _ _ _ ⟨by simp [f0], by simp [f1], by simp [f2]⟩
  clear f0 f1 f2
  rintro t H n ⟨f0, f1, f2⟩
  refine Stk.on ?_
  refine Stk.sq ?_
  refine Stk.sq ?_
  refine Stk.rg ?_
  refine Stk.run 2 (fun t H n => t 0 = .sh (c176 a0) ∧ t 1 = .sc (.int .u64 a1) ∧ t 2 = .sc (.int .i64 a2) ∧ t 12 = .sc (.bool false)) (fun J hJ => ?_) ?_
  · simp [-splice, f0, f1, f2, eqPS108, eqPO108]
    exact hJ _ _ _ ⟨by simp [f0], by simp [f1], by simp [f2], by simp [-splice, f0, f1, f2, eqPS108, eqPO108]⟩
  clear f0 f1 f2
  rintro t H n ⟨f0, f1, f2, f12⟩
  refine Stk.on ?_
  refine Stk.cond false (by simp [f12]) (fun hb => ?_) (fun hb => ?_)
  · cases hb
  refine Stk.sk ?_
  refine Stk.sq ?_
  refine Stk.rg ?_
  refine Stk.run 2 (fun t H n => t 2 = .sc (.int .i64 a2) ∧ t 14 = .sh (c176 a0) ∧ t 15 = .sc (.int .u64 a1)) (fun J hJ => ?_) ?_
  · simp [-splice, f0, f1, f2, f12]
    exact hJ _ _ _ ⟨by simp [f2], by simp [-splice, f0, f1, f2, f12], by simp [-splice, f0, f1, f2, f12]⟩
  clear f0 f1 f2 f12
  rintro t H n ⟨f2, f14, f15⟩
  obtain ⟨x1, hx1, h⟩ := bnd h
  refine Stk.cv (g := 145) (args := [.sh (c176 a0), .sc (.int .u64 a1)]) (args' := [.sh (c176 a0), .sc (.int .u64 a1)]) (v := .tup [.agg (c34 x1.1), .sc (.int .i64 x1.2.1), .sc (.bool x1.2.2)]) [] (ok_R16_Heap_record F _ _ _ hx1) (by simp [f2, f14, f15]) rfl rfl (by simp [f2, f14, f15]) (.cons (.free (by simp only [free]; exact fr176 _)) (.cons (.free (rfl)) (.nil))) (.inl ⟨rfl, by simp [free, freeL, fr34]⟩) (fun t' ht' => ?_)
  refine Stk.gen (fun t H n => t 2 = .sc (.int .i64 a2) ∧ t 16 = .tup [.agg (c34 x1.1), .sc (.int .i64 x1.2.1), .sc (.bool x1.2.2)]) ⟨by simp [ht', f2], by simp [ht']⟩ ?_
  clear f2 f14 f15 ht' t'
  rintro t H n ⟨f2, f16⟩
  refine Stk.run 4 (fun t H n => t 2 = .sc (.int .i64 a2) ∧ t 17 = .agg (c34 x1.1) ∧ t 18 = .sc (.int .i64 x1.2.1) ∧ t 19 = .sc (.bool x1.2.2)) (fun J hJ => ?_) ?_
  · simp [-splice, f2, f16]
    exact hJ _ _ _ ⟨by simp [f2], by simp [-splice, f2, f16], by simp [-splice, f2, f16], by simp [-splice, f2, f16]⟩
  clear f2 f16
  rintro t H n ⟨f2, f17, f18, f19⟩
  refine Stk.om (mop_alloc T.t34 (cs := c34 (api_Head.mk 0 0 0)) rfl) (by simp [f2, f17, f18, f19]) rfl (fun t' ht' => ?_)
  refine Stk.gen (fun t H n => ∃ b2, t 2 = .sc (.int .i64 a2) ∧ t 8 = .own b2 0 ∧ t 17 = .agg (c34 x1.1) ∧ t 18 = .sc (.int .i64 x1.2.1) ∧ t 19 = .sc (.bool x1.2.2) ∧ H b2 = some (.cells (c34 (api_Head.mk 0 0 0)) 34) ∧ b2 < n) ⟨n, by simp [ht', f2], by simp [ht'], by simp [ht', f17], by simp [ht', f18], by simp [ht', f19], upd_same _ _ _, Nat.lt_succ_self _⟩ ?_
  clear f2 f17 f18 f19 ht' t'
  rintro t H n ⟨b2, f2, f8, f17, f18, f19, b_b2, l_b2⟩
  refine Stk.om (mop_store (z := 3) rfl f8 b_b2 f17 (len34 _) (by rw [len34]; decide) (ok34 _) (st_34_0_34 _ _)) (by simp [f2, f8, f17, f18, f19]) rfl (fun t' ht' => ?_)
  refine Stk.gen (fun t H n => t 2 = .sc (.int .i64 a2) ∧ t 8 = .own b2 0 ∧ t 18 = .sc (.int .i64 x1.2.1) ∧ t 19 = .sc (.bool x1.2.2) ∧ H b2 = some (.cells (c34 x1.1) 34) ∧ b2 < n) ⟨by simp [ht', f2], by simp [ht', f8], by simp [ht', f18], by simp [ht', f19], upd_same _ _ _, l_b2⟩ ?_
  clear f2 f8 f17 f18 f19 b_b2 l_b2 ht' t'
  rintro t H n ⟨f2, f8, f18, f19, b_b2, l_b2⟩
  refine Stk.run 2 (fun t H n => t 2 = .sc (.int .i64 a2) ∧ t 8 = .own b2 0 ∧ t 9 = .sc (.int .i64 x1.2.1) ∧ t 10 = .sc (.bool x1.2.2) ∧ H b2 = some (.cells (c34 x1.1) 34) ∧ b2 < n) (fun J hJ => ?_) ?_
  · simp [-splice, f2, f8, f18, f19, b_b2]
    exact hJ _ _ _ ⟨by simp [f2], by simp [f8], by simp [-splice, f2, f8, f18, f19, b_b2], by simp [-splice, f2, f8, f18, f19, b_b2], b_b2, l_b2⟩
  clear f2 f8 f18 f19 b_b2 l_b2
  rintro t H n ⟨f2, f8, f9, f10, b_b2, l_b2⟩
  refine Stk.on ?_
  refine Stk.sq ?_
  refine Stk.sq ?_
  refine Stk.rg ?_
  refine Stk.run 3 (fun t H n => t 2 = .sc (.int .i64 a2) ∧ t 8 = .own b2 0 ∧ t 9 = .sc (.int .i64 x1.2.1) ∧ t 22 = .sc (.bool (!x1.2.2)) ∧ H b2 = some (.cells (c34 x1.1) 34) ∧ b2 < n) (fun J hJ => ?_) ?_
  · simp [-splice, f2, f8, f9, f10, b_b2]
    exact hJ _ _ _ ⟨by simp [f2], by simp [f8], by simp [f9], by simp [-splice, f2, f8, f9, f10, b_b2], b_b2, l_b2⟩
  clear f2 f8 f9 f10 b_b2 l_b2
  rintro t H n ⟨f2, f8, f9, f22, b_b2, l_b2⟩
  refine Stk.jo 4 (fun t H n => t 2 = .sc (.int .i64 a2) ∧ t 8 = .own b2 0 ∧ t 9 = .sc (.int .i64 x1.2.1) ∧ t 26 = .sc (.bool ((!x1.2.2) || (x1.1.Kind != 0))) ∧ H b2 = some (.cells (c34 x1.1) 34) ∧ b2 < n) (fun J1 hJ1 => ?_) ?_
  · rcases Bool.eq_false_or_eq_true (!x1.2.2) with hb1 | hb1
    · rw [hb1] at f22
      refine Stk.run 4 (fun t H n => t 2 = .sc (.int .i64 a2) ∧ t 8 = .own b2 0 ∧ t 9 = .sc (.int .i64 x1.2.1) ∧ t 26 = .sc (.bool true) ∧ H b2 = some (.cells (c34 x1.1) 34) ∧ b2 < n) (fun J hJ => ?_) ?_
      · simp [-splice, f2, f8, f9, f22, b_b2]
        exact hJ _ _ _ ⟨by simp [f2], by simp [f8], by simp [f9], by simp [-splice, f2, f8, f9, f22, b_b2], b_b2, l_b2⟩
      clear f2 f8 f9 f22 b_b2 l_b2
      rintro t H n ⟨f2, f8, f9, f26, b_b2, l_b2⟩
      refine Stk.on ?_
      exact Stk.ln 0 (by decide) (hJ1 _ _ _ ⟨f2, f8, f9, f26.trans (congrArg (fun q => AV.sc (.bool q)) (by rw [hb1]; rfl)), b_b2, l_b2⟩)
    · rw [hb1] at f22
      refine Stk.run 4 (fun t H n => t 2 = .sc (.int .i64 a2) ∧ t 8 = .own b2 0 ∧ t 9 = .sc (.int .i64 x1.2.1) ∧ t 26 = .sc (.bool (x1.1.Kind != 0)) ∧ H b2 = some (.cells (c34 x1.1) 34) ∧ b2 < n) (fun J hJ => ?_) ?_
      · simp [-splice, f2, f8, f9, f22, b_b2, ld_34_0_3]
        exact hJ _ _ _ ⟨by simp [f2], by simp [f8], by simp [f9], by simp [-splice, f2, f8, f9, f22, b_b2, ld_34_0_3], b_b2, l_b2⟩
      clear f2 f8 f9 f22 b_b2 l_b2
      rintro t H n ⟨f2, f8, f9, f26, b_b2, l_b2⟩
      refine Stk.on ?_
      exact Stk.ln 0 (by decide) (hJ1 _ _ _ ⟨f2, f8, f9, f26.trans (congrArg (fun q => AV.sc (.bool q)) (by rw [hb1]; rfl)), b_b2, l_b2⟩)
  clear f2 f8 f9 f22 b_b2 l_b2
  rintro t H n ⟨f2, f8, f9, f26, b_b2, l_b2⟩
  refine Stk.on ?_
  refine Stk.cond ((!x1.2.2) || (x1.1.Kind != 0)) (by exact f26) (fun hb3 => ?_) (fun hb3 => ?_)
  · have h := cT hb3 h
    refine Stk.sq ?_
    refine Stk.rg ?_
    refine Stk.run 2 (fun t H n => t 6 = .sc (.int .i64 0) ∧ t 7 = .sc (.int .i64 22)) (fun J hJ => ?_) ?_
    · simp [-splice, f2, f8, f9, f26, b_b2]
      exact hJ _ _ _ ⟨by simp [-splice, f2, f8, f9, f26, b_b2], by simp [-splice, f2, f8, f9, f26, b_b2]⟩
    clear f2 f8 f9 f26 b_b2 l_b2
    rintro t H n ⟨f6, f7⟩
    refine Stk.on ?_
    refine Stk.rt ?_
    have hq := Option.some.inj h; subst hq
    exact (hr _ _ _ (.tup [.sc (.int .i64 0), .sc (.int .i64 22)]) ([]) (by simp [f6, f7]) (.inr (.inr (.tup (.cons (.free (rfl)) (.cons (.free (rfl)) (.nil))))))).1
  · have h := cF hb3 h
    refine Stk.sk ?_
    refine Stk.sq ?_
    refine Stk.sq ?_
    refine Stk.rg ?_
    refine Stk.run 3 (fun t H n => t 2 = .sc (.int .i64 a2) ∧ t 8 = .own b2 0 ∧ t 9 = .sc (.int .i64 x1.2.1) ∧ t 29 = .sc (.bool (decide (a2 < 0))) ∧ H b2 = some (.cells (c34 x1.1) 34) ∧ b2 < n) (fun J hJ => ?_) ?_
    · simp [-splice, f2, f8, f9, f26, b_b2]
      exact hJ _ _ _ ⟨by simp [f2], by simp [f8], by simp [f9], by simp [-splice, f2, f8, f9, f26, b_b2], b_b2, l_b2⟩
    clear f2 f8 f9 f26 b_b2 l_b2
    rintro t H n ⟨f2, f8, f9, f29, b_b2, l_b2⟩
    refine Stk.jo 5 (fun t H n => t 2 = .sc (.int .i64 a2) ∧ t 9 = .sc (.int .i64 x1.2.1) ∧ t 34 = .sc (.bool ((decide (a2 < 0)) || (decide (x1.1.Count ≤ a2))))) (fun J2 hJ2 => ?_) ?_
    · rcases Bool.eq_false_or_eq_true (decide (a2 < 0)) with hb2 | hb2
      · rw [hb2] at f29
        refine Stk.run 5 (fun t H n => t 2 = .sc (.int .i64 a2) ∧ t 9 = .sc (.int .i64 x1.2.1) ∧ t 34 = .sc (.bool true)) (fun J hJ => ?_) ?_
        · simp [-splice, f2, f8, f9, f29, b_b2]
          exact hJ _ _ _ ⟨by simp [f2], by simp [f9], by simp [-splice, f2, f8, f9, f29, b_b2]⟩
        clear f2 f8 f9 f29 b_b2 l_b2
        rintro t H n ⟨f2, f9, f34⟩
        refine Stk.on ?_
        exact Stk.ln 0 (by decide) (hJ2 _ _ _ ⟨f2, f9, f34.trans (congrArg (fun q => AV.sc (.bool q)) (by rw [hb2]; rfl))⟩)
      · rw [hb2] at f29
        refine Stk.run 5 (fun t H n => t 2 = .sc (.int .i64 a2) ∧ t 9 = .sc (.int .i64 x1.2.1) ∧ t 34 = .sc (.bool (decide (x1.1.Count ≤ a2)))) (fun J hJ => ?_) ?_
        · simp [-splice, f2, f8, f9, f29, b_b2, ld_34_2_3]
          exact hJ _ _ _ ⟨by simp [f2], by simp [f9], by simp [-splice, f2, f8, f9, f29, b_b2, ld_34_2_3]⟩
        clear f2 f8 f9 f29 b_b2 l_b2
        rintro t H n ⟨f2, f9, f34⟩
        refine Stk.on ?_
        exact Stk.ln 0 (by decide) (hJ2 _ _ _ ⟨f2, f9, f34.trans (congrArg (fun q => AV.sc (.bool q)) (by rw [hb2]; rfl))⟩)
    clear f2 f8 f9 f29 b_b2 l_b2
    rintro t H n ⟨f2, f9, f34⟩
    refine Stk.on ?_
    refine Stk.cond ((decide (a2 < 0)) || (decide (x1.1.Count ≤ a2))) (by exact f34) (fun hb4 => ?_) (fun hb4 => ?_)
    · have h := cT hb4 h
      refine Stk.sq ?_
      refine Stk.rg ?_
      refine Stk.run 2 (fun t H n => t 6 = .sc (.int .i64 0) ∧ t 7 = .sc (.int .i64 20)) (fun J hJ => ?_) ?_
      · simp [-splice, f2, f9, f34]
        exact hJ _ _ _ ⟨by simp [-splice, f2, f9, f34], by simp [-splice, f2, f9, f34]⟩
      clear f2 f9 f34
      rintro t H n ⟨f6, f7⟩
      refine Stk.on ?_
      refine Stk.rt ?_
      have hq := Option.some.inj h; subst hq
      exact (hr _ _ _ (.tup [.sc (.int .i64 0), .sc (.int .i64 20)]) ([]) (by simp [f6, f7]) (.inr (.inr (.tup (.cons (.free (rfl)) (.cons (.free (rfl)) (.nil))))))).1
    · have h := cF hb4 h
      refine Stk.sk ?_
      refine Stk.sq ?_
      refine Stk.rg ?_
      refine Stk.run 6 (fun t H n => t 6 = .sc (.int .i64 (IntKind.i64.wrap ((IntKind.i64.wrap (x1.2.1 + 2)) + a2))) ∧ t 7 = .sc (.int .i64 0)) (fun J hJ => ?_) ?_
      · simp [-splice, f2, f9, f34]
        exact hJ _ _ _ ⟨by simp [-splice, f2, f9, f34], by simp [-splice, f2, f9, f34]⟩
      clear f2 f9 f34
      rintro t H n ⟨f6, f7⟩
      refine Stk.on ?_
      refine Stk.rt ?_
      have hq := Option.some.inj h; subst hq
      exact (hr _ _ _ (.tup [.sc (.int .i64 (IntKind.i64.wrap ((IntKind.i64.wrap (x1.2.1 + 2)) + a2))), .sc (.int .i64 0)]) ([]) (by simp [f6, f7]) (.inr (.inr (.tup (.cons (.free (rfl)) (.cons (.free (rfl)) (.nil))))))).1
theorem ok_R16_Heap_Field (F : Nat) (a0 : handloomref16_Heap) (a1 : Int) (a2 : Int) (r : (Int × Int)) (h : R16_Heap_Field F a0 a1 a2 = some r) : RunF Try.prog T.T 125 [.sh (c176 a0), .sc (.int .u64 a1), .sc (.int .i64 a2)] (.tup [.sc (.int .u64 r.1), .sc (.int .i64 r.2)]) := by
  rw [R16_Heap_Field] at h
  refine RunF.z Try.func125 rfl rfl rfl rfl rfl (fun C hr => ?_)
  refine Stk.gen (fun t H n => t 0 = .sh (c176 a0) ∧ t 1 = .sc (.int .u64 a1) ∧ t 2 = .sc (.int .i64 a2)) ⟨by simp, by simp, by simp⟩ ?_
  rintro t H n ⟨f0, f1, f2⟩
  refine Stk.sq ?_
  refine Stk.rg ?_
  refine Stk.run 2 (fun t H n => t 0 = .sh (c176 a0) ∧ t 1 = .sc (.int .u64 a1) ∧ t 2 = .sc (.int .i64 a2)) (fun J hJ => ?_) ?_
  · simp [-splice, f0, f1, f2]
    exact hJ _ _ _ ⟨by simp [f0], by simp [f1], by simp [f2]⟩
  clear f0 f1 f2
  rintro t H n ⟨f0, f1, f2⟩
  refine Stk.on ?_
  refine Stk.sq ?_
  refine Stk.rg ?_
  refine Stk.run 3 (fun t H n => t 0 = .sh (c176 a0) ∧ t 11 = .sh (c176 a0) ∧ t 12 = .sc (.int .u64 a1) ∧ t 13 = .sc (.int .i64 a2)) (fun J hJ => ?_) ?_
  · simp [-splice, f0, f1, f2]
    exact hJ _ _ _ ⟨by simp [f0], by simp [-splice, f0, f1, f2], by simp [-splice, f0, f1, f2], by simp [-splice, f0, f1, f2]⟩
  clear f0 f1 f2
  rintro t H n ⟨f0, f11, f12, f13⟩
  obtain ⟨x1, hx1, h⟩ := bnd h
  refine Stk.cv (g := 146) (args := [.sh (c176 a0), .sc (.int .u64 a1), .sc (.int .i64 a2)]) (args' := [.sh (c176 a0), .sc (.int .u64 a1), .sc (.int .i64 a2)]) (v := .tup [.sc (.int .i64 x1.1), .sc (.int .i64 x1.2)]) [] (ok_R16_Heap_field F _ _ _ _ hx1) (by simp [f0, f11, f12, f13]) rfl rfl (by simp [f0, f11, f12, f13]) (.cons (.free (by simp only [free]; exact fr176 _)) (.cons (.free (rfl)) (.cons (.free (rfl)) (.nil)))) (.inl ⟨rfl, by simp [free, freeL]⟩) (fun t' ht' => ?_)
  refine Stk.gen (fun t H n => t 0 = .sh (c176 a0) ∧ t 14 = .tup [.sc (.int .i64 x1.1), .sc (.int .i64 x1.2)]) ⟨by simp [ht', f0], by simp [ht']⟩ ?_
  clear f0 f11 f12 f13 ht' t'
  rintro t H n ⟨f0, f14⟩
  refine Stk.run 5 (fun t H n => t 0 = .sh (c176 a0) ∧ t 8 = .sc (.int .i64 x1.1) ∧ t 9 = .sc (.int .i64 x1.2)) (fun J hJ => ?_) ?_
  · simp [-splice, f0, f14]
    exact hJ _ _ _ ⟨by simp [f0], by simp [-splice, f0, f14], by simp [-splice, f0, f14]⟩
  clear f0 f14
  rintro t H n ⟨f0, f8, f9⟩
  refine Stk.on ?_
  refine Stk.sq ?_
  refine Stk.sq ?_
  refine Stk.rg ?_
  refine Stk.run 2 (fun t H n => t 0 = .sh (c176 a0) ∧ t 8 = .sc (.int .i64 x1.1) ∧ t 9 = .sc (.int .i64 x1.2) ∧ t 18 = .sc (.bool (x1.2 != 0))) (fun J hJ => ?_) ?_
  · simp [-splice, f0, f8, f9]
    exact hJ _ _ _ ⟨by simp [f0], by simp [f8], by simp [f9], by simp [-splice, f0, f8, f9]⟩
  clear f0 f8 f9
  rintro t H n ⟨f0, f8, f9, f18⟩
  refine Stk.on ?_
  refine Stk.cond (x1.2 != 0) (by exact f18) (fun hb2 => ?_) (fun hb2 => ?_)
  · have h := cT hb2 h
    refine Stk.sq ?_
    refine Stk.rg ?_
    refine Stk.run 3 (fun t H n => t 6 = .sc (.int .u64 0) ∧ t 7 = .sc (.int .i64 x1.2)) (fun J hJ => ?_) ?_
    · simp [-splice, f0, f8, f9, f18]
      exact hJ _ _ _ ⟨by simp [-splice, f0, f8, f9, f18], by simp [-splice, f0, f8, f9, f18]⟩
    clear f0 f8 f9 f18
    rintro t H n ⟨f6, f7⟩
    refine Stk.on ?_
    refine Stk.rt ?_
    have hq := Option.some.inj h; subst hq
    exact (hr _ _ _ (.tup [.sc (.int .u64 0), .sc (.int .i64 x1.2)]) ([]) (by simp [f6, f7]) (.inr (.inr (.tup (.cons (.free (rfl)) (.cons (.free (rfl)) (.nil))))))).1
  · have h := cF hb2 h
    refine Stk.sk ?_
    refine Stk.sq ?_
    refine Stk.rg ?_
    obtain ⟨x3, hx3, h⟩ := bnd h
    obtain ⟨i0x3, i1x3, i2x3, _⟩ := idx_ok hx3
    have ex3_0_40 : partOf T.T 40 (encs c40 a0.H.Words) (x1.1.toNat) = some (.sc (.int .u64 x3)) := by
        have e0 := part_elem0 (e := c40) (z := 1) (T := T.T) (ty := 40) T.t40 (by decide) (by decide) hx3 0 (by decide)
        (try simp only [Nat.mul_one, Nat.add_zero] at e0)
        exact e0.trans rfl
    refine Stk.run 10 (fun t H n => t 6 = .sc (.int .u64 x3) ∧ t 7 = .sc (.int .i64 0)) (fun J hJ => ?_) ?_
    · simp [-splice, f0, f8, f9, f18, pd39, ld_176_0_39, i0x3, i1x3, pd40, ex3_0_40]
      exact hJ _ _ _ ⟨by simp [-splice, f0, f8, f9, f18, pd39, ld_176_0_39, i0x3, i1x3, pd40, ex3_0_40], by simp [-splice, f0, f8, f9, f18, pd39, ld_176_0_39, i0x3, i1x3, pd40, ex3_0_40]⟩
    clear f0 f8 f9 f18
    rintro t H n ⟨f6, f7⟩
    refine Stk.on ?_
    refine Stk.rt ?_
    have hq := Option.some.inj h; subst hq
    exact (hr _ _ _ (.tup [.sc (.int .u64 x3), .sc (.int .i64 0)]) ([]) (by simp [f6, f7]) (.inr (.inr (.tup (.cons (.free (rfl)) (.cons (.free (rfl)) (.nil))))))).1
theorem ok_R16_Heap_Text (F : Nat) (a0 : handloomref16_Heap) (a1 : Int) (r : ((List Int) × Int)) (h : R16_Heap_Text F a0 a1 = some r) : RunF Try.prog T.T 126 [.sh (c176 a0), .sc (.int .u64 a1)] (.tup [.ssl (encs c5 r.1) r.1.length false, .sc (.int .i64 r.2)]) := by
  rw [R16_Heap_Text] at h
  refine RunF.z Try.func126 rfl rfl rfl rfl rfl (fun C hr => ?_)
  refine Stk.gen (fun t H n => t 0 = .sh (c176 a0) ∧ t 1 = .sc (.int .u64 a1)) ⟨by simp, by simp⟩ ?_
  rintro t H n ⟨f0, f1⟩
  refine Stk.sq ?_
  refine Stk.rg ?_
  refine Stk.run 1 (fun t H n => t 0 = .sh (c176 a0) ∧ t 1 = .sc (.int .u64 a1)) (fun J hJ => ?_) ?_
  · simp [-splice, f0, f1]
    exact hJ _ _ _ ⟨by simp [f0], by simp [f1]⟩
  clear f0 f1
  rintro t H n ⟨f0, f1⟩
  refine Stk.run 1 (fun t H n => t 0 = .sh (c176 a0) ∧ t 1 = .sc (.int .u64 a1)) (fun J hJ => ?_) ?_
  · simp [-splice, f0, f1]
    exact hJ _ _ _ ⟨by simp [f0], by simp [f1]⟩
  clear f0 f1
  rintro t H n ⟨f0, f1⟩
  refine Stk.on ?_
  refine Stk.sq ?_
  refine Stk.sq ?_
  refine Stk.rg ?_
  refine Stk.run 2 (fun t H n => t 0 = .sh (c176 a0) ∧ t 1 = .sc (.int .u64 a1) ∧ t 12 = .sc (.bool false)) (fun J hJ => ?_) ?_
  · simp [-splice, f0, f1, eqPS108, eqPO108]
    exact hJ _ _ _ ⟨by simp [f0], by simp [f1], by simp [-splice, f0, f1, eqPS108, eqPO108]⟩
  clear f0 f1
  rintro t H n ⟨f0, f1, f12⟩
  refine Stk.on ?_
  refine Stk.cond false (by simp [f12]) (fun hb => ?_) (fun hb => ?_)
  · cases hb
  refine Stk.sk ?_
  refine Stk.sq ?_
  refine Stk.rg ?_
  refine Stk.run 2 (fun t H n => t 0 = .sh (c176 a0) ∧ t 14 = .sh (c176 a0) ∧ t 15 = .sc (.int .u64 a1)) (fun J hJ => ?_) ?_
  · simp [-splice, f0, f1, f12]
    exact hJ _ _ _ ⟨by simp [f0], by simp [-splice, f0, f1, f12], by simp [-splice, f0, f1, f12]⟩
  clear f0 f1 f12
  rintro t H n ⟨f0, f14, f15⟩
  obtain ⟨x1, hx1, h⟩ := bnd h
  refine Stk.cv (g := 145) (args := [.sh (c176 a0), .sc (.int .u64 a1)]) (args' := [.sh (c176 a0), .sc (.int .u64 a1)]) (v := .tup [.agg (c34 x1.1), .sc (.int .i64 x1.2.1), .sc (.bool x1.2.2)]) [] (ok_R16_Heap_record F _ _ _ hx1) (by simp [f0, f14, f15]) rfl rfl (by simp [f0, f14, f15]) (.cons (.free (by simp only [free]; exact fr176 _)) (.cons (.free (rfl)) (.nil))) (.inl ⟨rfl, by simp [free, freeL, fr34]⟩) (fun t' ht' => ?_)
  refine Stk.gen (fun t H n => t 0 = .sh (c176 a0) ∧ t 16 = .tup [.agg (c34 x1.1), .sc (.int .i64 x1.2.1), .sc (.bool x1.2.2)]) ⟨by simp [ht', f0], by simp [ht']⟩ ?_
  clear f0 f14 f15 ht' t'
  rintro t H n ⟨f0, f16⟩
  refine Stk.run 4 (fun t H n => t 0 = .sh (c176 a0) ∧ t 17 = .agg (c34 x1.1) ∧ t 18 = .sc (.int .i64 x1.2.1) ∧ t 19 = .sc (.bool x1.2.2)) (fun J hJ => ?_) ?_
  · simp [-splice, f0, f16]
    exact hJ _ _ _ ⟨by simp [f0], by simp [-splice, f0, f16], by simp [-splice, f0, f16], by simp [-splice, f0, f16]⟩
  clear f0 f16
  rintro t H n ⟨f0, f17, f18, f19⟩
  refine Stk.om (mop_alloc T.t34 (cs := c34 (api_Head.mk 0 0 0)) rfl) (by simp [f0, f17, f18, f19]) rfl (fun t' ht' => ?_)
  refine Stk.gen (fun t H n => ∃ b2, t 0 = .sh (c176 a0) ∧ t 6 = .own b2 0 ∧ t 17 = .agg (c34 x1.1) ∧ t 18 = .sc (.int .i64 x1.2.1) ∧ t 19 = .sc (.bool x1.2.2) ∧ H b2 = some (.cells (c34 (api_Head.mk 0 0 0)) 34) ∧ b2 < n) ⟨n, by simp [ht', f0], by simp [ht'], by simp [ht', f17], by simp [ht', f18], by simp [ht', f19], upd_same _ _ _, Nat.lt_succ_self _⟩ ?_
  clear f0 f17 f18 f19 ht' t'
  rintro t H n ⟨b2, f0, f6, f17, f18, f19, b_b2, l_b2⟩
  refine Stk.om (mop_store (z := 3) rfl f6 b_b2 f17 (len34 _) (by rw [len34]; decide) (ok34 _) (st_34_0_34 _ _)) (by simp [f0, f6, f17, f18, f19]) rfl (fun t' ht' => ?_)
  refine Stk.gen (fun t H n => t 0 = .sh (c176 a0) ∧ t 6 = .own b2 0 ∧ t 18 = .sc (.int .i64 x1.2.1) ∧ t 19 = .sc (.bool x1.2.2) ∧ H b2 = some (.cells (c34 x1.1) 34) ∧ b2 < n) ⟨by simp [ht', f0], by simp [ht', f6], by simp [ht', f18], by simp [ht', f19], upd_same _ _ _, l_b2⟩ ?_
  clear f0 f6 f17 f18 f19 b_b2 l_b2 ht' t'
  rintro t H n ⟨f0, f6, f18, f19, b_b2, l_b2⟩
  refine Stk.run 2 (fun t H n => t 0 = .sh (c176 a0) ∧ t 6 = .own b2 0 ∧ t 7 = .sc (.int .i64 x1.2.1) ∧ t 8 = .sc (.bool x1.2.2) ∧ H b2 = some (.cells (c34 x1.1) 34) ∧ b2 < n) (fun J hJ => ?_) ?_
  · simp [-splice, f0, f6, f18, f19, b_b2]
    exact hJ _ _ _ ⟨by simp [f0], by simp [f6], by simp [-splice, f0, f6, f18, f19, b_b2], by simp [-splice, f0, f6, f18, f19, b_b2], b_b2, l_b2⟩
  clear f0 f6 f18 f19 b_b2 l_b2
  rintro t H n ⟨f0, f6, f7, f8, b_b2, l_b2⟩
  refine Stk.on ?_
  refine Stk.sq ?_
  refine Stk.sq ?_
  refine Stk.rg ?_
  refine Stk.run 3 (fun t H n => t 0 = .sh (c176 a0) ∧ t 6 = .own b2 0 ∧ t 7 = .sc (.int .i64 x1.2.1) ∧ t 22 = .sc (.bool (!x1.2.2)) ∧ H b2 = some (.cells (c34 x1.1) 34) ∧ b2 < n) (fun J hJ => ?_) ?_
  · simp [-splice, f0, f6, f7, f8, b_b2]
    exact hJ _ _ _ ⟨by simp [f0], by simp [f6], by simp [f7], by simp [-splice, f0, f6, f7, f8, b_b2], b_b2, l_b2⟩
  clear f0 f6 f7 f8 b_b2 l_b2
  rintro t H n ⟨f0, f6, f7, f22, b_b2, l_b2⟩
  refine Stk.jo 4 (fun t H n => t 0 = .sh (c176 a0) ∧ t 6 = .own b2 0 ∧ t 7 = .sc (.int .i64 x1.2.1) ∧ t 26 = .sc (.bool ((!x1.2.2) || (x1.1.Kind != 1))) ∧ H b2 = some (.cells (c34 x1.1) 34) ∧ b2 < n) (fun J1 hJ1 => ?_) ?_
  · rcases Bool.eq_false_or_eq_true (!x1.2.2) with hb1 | hb1
    · rw [hb1] at f22
      refine Stk.run 4 (fun t H n => t 0 = .sh (c176 a0) ∧ t 6 = .own b2 0 ∧ t 7 = .sc (.int .i64 x1.2.1) ∧ t 26 = .sc (.bool true) ∧ H b2 = some (.cells (c34 x1.1) 34) ∧ b2 < n) (fun J hJ => ?_) ?_
      · simp [-splice, f0, f6, f7, f22, b_b2]
        exact hJ _ _ _ ⟨by simp [f0], by simp [f6], by simp [f7], by simp [-splice, f0, f6, f7, f22, b_b2], b_b2, l_b2⟩
      clear f0 f6 f7 f22 b_b2 l_b2
      rintro t H n ⟨f0, f6, f7, f26, b_b2, l_b2⟩
      refine Stk.on ?_
      exact Stk.ln 0 (by decide) (hJ1 _ _ _ ⟨f0, f6, f7, f26.trans (congrArg (fun q => AV.sc (.bool q)) (by rw [hb1]; rfl)), b_b2, l_b2⟩)
    · rw [hb1] at f22
      refine Stk.run 4 (fun t H n => t 0 = .sh (c176 a0) ∧ t 6 = .own b2 0 ∧ t 7 = .sc (.int .i64 x1.2.1) ∧ t 26 = .sc (.bool (x1.1.Kind != 1)) ∧ H b2 = some (.cells (c34 x1.1) 34) ∧ b2 < n) (fun J hJ => ?_) ?_
      · simp [-splice, f0, f6, f7, f22, b_b2, ld_34_0_3]
        exact hJ _ _ _ ⟨by simp [f0], by simp [f6], by simp [f7], by simp [-splice, f0, f6, f7, f22, b_b2, ld_34_0_3], b_b2, l_b2⟩
      clear f0 f6 f7 f22 b_b2 l_b2
      rintro t H n ⟨f0, f6, f7, f26, b_b2, l_b2⟩
      refine Stk.on ?_
      exact Stk.ln 0 (by decide) (hJ1 _ _ _ ⟨f0, f6, f7, f26.trans (congrArg (fun q => AV.sc (.bool q)) (by rw [hb1]; rfl)), b_b2, l_b2⟩)
  clear f0 f6 f7 f22 b_b2 l_b2
  rintro t H n ⟨f0, f6, f7, f26, b_b2, l_b2⟩
  refine Stk.on ?_
  refine Stk.cond ((!x1.2.2) || (x1.1.Kind != 1)) (by exact f26) (fun hb3 => ?_) (fun hb3 => ?_)
  · have h := cT hb3 h
    refine Stk.sq ?_
    refine Stk.rg ?_
    refine Stk.run 1 (fun t H n => t 4 = .sc (.slice none 0 0)) (fun J hJ => ?_) ?_
    · simp [-splice, f0, f6, f7, f26, b_b2]
      exact hJ _ _ _ (by simp [-splice, f0, f6, f7, f26, b_b2])
    clear f0 f6 f7 f26 b_b2 l_b2
    rintro t H n f4
    refine Stk.wk trivial 4 (.ssl (encs c5 ([] : (List Int))) ([] : (List Int)).length false) (by rw [f4]; exact .inr (.inr .nilS)) (fun t' ht' => ?_)
    refine Stk.gen (fun t H n => t 4 = .ssl (encs c5 ([] : (List Int))) ([] : (List Int)).length false) (by simp [ht', f4]) ?_
    clear f4 ht' t'
    rintro t H n f4
    refine Stk.run 1 (fun t H n => t 4 = .ssl (encs c5 ([] : (List Int))) ([] : (List Int)).length false ∧ t 5 = .sc (.int .i64 22)) (fun J hJ => ?_) ?_
    · simp [-splice, f4]
      exact hJ _ _ _ ⟨by simp [f4], by simp [-splice, f4]⟩
    clear f4
    rintro t H n ⟨f4, f5⟩
    refine Stk.on ?_
    refine Stk.rt ?_
    have hq := Option.some.inj h; subst hq
    exact (hr _ _ _ (.tup [.ssl (encs c5 ([] : (List Int))) ([] : (List Int)).length false, .sc (.int .i64 22)]) ([]) (by simp [f4, f5]) (.inr (.inr (.tup (.cons (.free (freeL_encs fr5 _)) (.cons (.free (rfl)) (.nil))))))).1
  · have h := cF hb3 h
    refine Stk.sk ?_
    refine Stk.sq ?_
    refine Stk.rg ?_
    refine Stk.run 2 (fun t H n => t 0 = .sh (c176 a0) ∧ t 6 = .own b2 0 ∧ t 7 = .sc (.int .i64 x1.2.1) ∧ t 28 = .sc (.int .i64 x1.1.Count) ∧ H b2 = some (.cells (c34 x1.1) 34) ∧ b2 < n) (fun J hJ => ?_) ?_
    · simp [-splice, f0, f6, f7, f26, b_b2, ld_34_2_3]
      exact hJ _ _ _ ⟨by simp [f0], by simp [f6], by simp [f7], by simp [-splice, f0, f6, f7, f26, b_b2, ld_34_2_3], b_b2, l_b2⟩
    clear f0 f6 f7 f26 b_b2 l_b2
    rintro t H n ⟨f0, f6, f7, f28, b_b2, l_b2⟩
    obtain ⟨x4, hx4, h⟩ := bnd h
    obtain ⟨m1x4, m2x4, m3x4, m4x4⟩ := makM_ok hx4
    refine Stk.om (mop_make (c := c5) (z := 1) T.t35 rfl T.t5 rfl (by decide) rfl 0 f28 rfl m1x4 m2x4 m3x4) (by simp [f0, f6, f7, f28]) rfl (fun t' ht' => ?_)
    refine Stk.gen (fun t H n => ∃ b5, t 0 = .sh (c176 a0) ∧ t 6 = .own b2 0 ∧ t 7 = .sc (.int .i64 x1.2.1) ∧ t 29 = .osl b5 0 x4.length (some x4.length) ∧ H b2 = some (.cells (c34 x1.1) 34) ∧ b2 < n ∧ H b5 = some (.cells (encs c5 x4) 5) ∧ b5 < n ∧ b2 ≠ b5) ⟨n, by simp [ht', f0], by simp [ht', f6], by simp [ht', f7], by rw [← m4x4, List.length_replicate]; simp [ht'], (upd_ne _ _ (Nat.ne_of_lt l_b2)).trans b_b2, Nat.lt_succ_of_lt l_b2, by rw [← m4x4]; exact upd_same _ _ _, Nat.lt_succ_self _, Nat.ne_of_lt l_b2⟩ ?_
    clear f0 f6 f7 f28 b_b2 l_b2 ht' t'
    rintro t H n ⟨b5, f0, f6, f7, f29, b_b2, l_b2, b_b5, l_b5, d_b2_b5⟩
    refine Stk.run 1 (fun t H n => t 0 = .sh (c176 a0) ∧ t 6 = .own b2 0 ∧ t 7 = .sc (.int .i64 x1.2.1) ∧ t 9 = .osl b5 0 x4.length (some x4.length) ∧ H b2 = some (.cells (c34 x1.1) 34) ∧ b2 < n ∧ H b5 = some (.cells (encs c5 x4) 5) ∧ b5 < n ∧ b2 ≠ b5) (fun J hJ => ?_) ?_
    · simp [-splice, f0, f6, f7, f29, b_b2, b_b5]
      exact hJ _ _ _ ⟨by simp [f0], by simp [f6], by simp [f7], by simp [-splice, f0, f6, f7, f29, b_b2, b_b5], b_b2, l_b2, b_b5, l_b5, d_b2_b5⟩
    clear f0 f6 f7 f29 b_b2 l_b2 b_b5 l_b5 d_b2_b5
    rintro t H n ⟨f0, f6, f7, f9, b_b2, l_b2, b_b5, l_b5, d_b2_b5⟩
    refine Stk.on ?_
    refine Stk.sq ?_
    refine Stk.sq ?_
    refine Stk.rg ?_
    refine Stk.run 1 (fun t H n => t 0 = .sh (c176 a0) ∧ t 6 = .own b2 0 ∧ t 7 = .sc (.int .i64 x1.2.1) ∧ t 9 = .osl b5 0 x4.length (some x4.length) ∧ t 10 = .sc (.int .i64 0) ∧ H b2 = some (.cells (c34 x1.1) 34) ∧ b2 < n ∧ H b5 = some (.cells (encs c5 x4) 5) ∧ b5 < n ∧ b2 ≠ b5) (fun J hJ => ?_) ?_
    · simp [-splice, f0, f6, f7, f9, b_b2, b_b5]
      exact hJ _ _ _ ⟨by simp [f0], by simp [f6], by simp [f7], by simp [f9], by simp [-splice, f0, f6, f7, f9, b_b2, b_b5], b_b2, l_b2, b_b5, l_b5, d_b2_b5⟩
    clear f0 f6 f7 f9 b_b2 l_b2 b_b5 l_b5 d_b2_b5
    rintro t H n ⟨f0, f6, f7, f9, f10, b_b2, l_b2, b_b5, l_b5, d_b2_b5⟩
    refine Stk.on ?_
    refine Stk.bk ?_
    refine Stk.lo (fun μ t H n => ∃ v6 : Int, ∃ v7 : List Int, R16_Heap_Text_L0 F a0 x1 μ v6 v7 = some r ∧ t 0 = .sh (c176 a0) ∧ t 6 = .own b2 0 ∧ t 7 = .sc (.int .i64 x1.2.1) ∧ t 9 = .osl b5 0 v7.length (some v7.length) ∧ t 10 = .sc (.int .i64 v6) ∧ H b2 = some (.cells (c34 x1.1) 34) ∧ b2 < n ∧ H b5 = some (.cells (encs c5 v7) 5) ∧ b5 < n ∧ b2 ≠ b5) F ⟨0, x4, h, f0, f6, f7, f9, f10, b_b2, l_b2, b_b5, l_b5, d_b2_b5⟩ ?_
    clear h f0 f6 f7 f9 f10 b_b2 l_b2 b_b5 l_b5 d_b2_b5
    rintro J2 hJ2 μ t H n ⟨v6, v7, h, f0, f6, f7, f9, f10, b_b2, l_b2, b_b5, l_b5, d_b2_b5⟩
    cases μ with
    | zero => exact absurd h (by simp [R16_Heap_Text_L0])
    | succ μ =>
    rw [R16_Heap_Text_L0] at h
    refine Stk.sq ?_
    refine Stk.sq ?_
    refine Stk.rg ?_
    refine Stk.run 4 (fun t H n => t 0 = .sh (c176 a0) ∧ t 6 = .own b2 0 ∧ t 7 = .sc (.int .i64 x1.2.1) ∧ t 9 = .osl b5 0 v7.length (some v7.length) ∧ t 10 = .sc (.int .i64 v6) ∧ t 33 = .sc (.bool (decide (v6 < x1.1.Count))) ∧ H b2 = some (.cells (c34 x1.1) 34) ∧ b2 < n ∧ H b5 = some (.cells (encs c5 v7) 5) ∧ b5 < n ∧ b2 ≠ b5) (fun J hJ => ?_) ?_
    · simp [-splice, f0, f6, f7, f9, f10, b_b2, b_b5, ld_34_2_3]
      exact hJ _ _ _ ⟨by simp [f0], by simp [f6], by simp [f7], by simp [f9], by simp [f10], by simp [-splice, f0, f6, f7, f9, f10, b_b2, b_b5, ld_34_2_3], b_b2, l_b2, b_b5, l_b5, d_b2_b5⟩
    clear f0 f6 f7 f9 f10 b_b2 l_b2 b_b5 l_b5 d_b2_b5
    rintro t H n ⟨f0, f6, f7, f9, f10, f33, b_b2, l_b2, b_b5, l_b5, d_b2_b5⟩
    refine Stk.on ?_
    refine Stk.cond (decide (v6 < x1.1.Count)) (by exact f33) (fun hb10 => ?_) (fun hb10 => ?_)
    · have h := cT hb10 h
      refine Stk.sk ?_
      refine Stk.sq ?_
      refine Stk.bk ?_
      refine Stk.rg ?_
      obtain ⟨x11, hx11, h⟩ := bnd h
      obtain ⟨i0x11, i1x11, i2x11, _⟩ := idx_ok hx11
      have ex11_0_40 : partOf T.T 40 (encs c40 a0.H.Words) ((IntKind.i64.wrap ((IntKind.i64.wrap (x1.2.1 + 2)) + (IntKind.i64.wrap (v6.tdiv 8)))).toNat) = some (.sc (.int .u64 x11)) := by
          have e0 := part_elem0 (e := c40) (z := 1) (T := T.T) (ty := 40) T.t40 (by decide) (by decide) hx11 0 (by decide)
          (try simp only [Nat.mul_one, Nat.add_zero] at e0)
          exact e0.trans rfl
      obtain ⟨x12, hx12, h⟩ := bnd h
      obtain ⟨nx12, ex12⟩ := shrM_ok hx12
      obtain ⟨x13, hx13, h⟩ := bnd h
      obtain ⟨i0x13, i1x13, i2x13, _⟩ := idx_ok hx13
      refine Stk.run 21 (fun t H n => t 0 = .sh (c176 a0) ∧ t 6 = .own b2 0 ∧ t 7 = .sc (.int .i64 x1.2.1) ∧ t 9 = .osl b5 0 v7.length (some v7.length) ∧ t 10 = .sc (.int .i64 v6) ∧ t 55 = .sc (.int .u8 (IntKind.u8.wrap x12)) ∧ t 56 = .own b5 (v6.toNat) ∧ H b2 = some (.cells (c34 x1.1) 34) ∧ b2 < n ∧ H b5 = some (.cells (encs c5 v7) 5) ∧ b5 < n ∧ b2 ≠ b5) (fun J hJ => ?_) ?_
      · simp [-splice, f0, f6, f7, f9, f10, f33, b_b2, b_b5, pd39, ld_176_0_39, i0x11, i1x11, pd40, ex11_0_40, nx12, ex12, i0x13, i1x13]
        exact hJ _ _ _ ⟨by simp [f0], by simp [f6], by simp [f7], by simp [f9], by simp [f10], by simp [-splice, f0, f6, f7, f9, f10, f33, b_b2, b_b5, pd39, ld_176_0_39, i0x11, i1x11, pd40, ex11_0_40, nx12, ex12, i0x13, i1x13], by simp [-splice, f0, f6, f7, f9, f10, f33, b_b2, b_b5, pd39, ld_176_0_39, i0x11, i1x11, pd40, ex11_0_40, nx12, ex12, i0x13, i1x13], b_b2, l_b2, b_b5, l_b5, d_b2_b5⟩
      clear f0 f6 f7 f9 f10 f33 b_b2 l_b2 b_b5 l_b5 d_b2_b5
      rintro t H n ⟨f0, f6, f7, f9, f10, f55, f56, b_b2, l_b2, b_b5, l_b5, d_b2_b5⟩
      have sp : splice (encs c5 v7) (v6.toNat) ([.sc (.int .u8 (IntKind.u8.wrap x12))]) = encs c5 (v7.set v6.toNat (IntKind.u8.wrap x12)) := by
        have e0 := splice_elem0 (e := c5) (z := 1) hx13 (IntKind.u8.wrap x12)
        simpa using e0
      refine Stk.om (mop_store (z := 1) rfl f56 b_b5 f55 rfl (by rw [length_encs (e := c5)]; omega) rfl sp) (by simp [f0, f6, f7, f9, f10, f55, f56]) rfl (fun t' ht' => ?_)
      refine Stk.gen (fun t H n => t 0 = .sh (c176 a0) ∧ t 6 = .own b2 0 ∧ t 7 = .sc (.int .i64 x1.2.1) ∧ t 9 = .osl b5 0 (v7.set v6.toNat (IntKind.u8.wrap x12)).length (some (v7.set v6.toNat (IntKind.u8.wrap x12)).length) ∧ t 10 = .sc (.int .i64 v6) ∧ H b2 = some (.cells (c34 x1.1) 34) ∧ b2 < n ∧ H b5 = some (.cells (encs c5 (v7.set v6.toNat (IntKind.u8.wrap x12))) 5) ∧ b5 < n ∧ b2 ≠ b5) ⟨by simp [ht', f0], by simp [ht', f6], by simp [ht', f7], by simp [-splice, ht', f0, f6, f7, f9, f10, f55, f56], by simp [ht', f10], (upd_ne _ _ d_b2_b5).trans b_b2, l_b2, upd_same _ _ _, l_b5, d_b2_b5⟩ ?_
      clear f0 f6 f7 f9 f10 f55 f56 b_b2 l_b2 b_b5 l_b5 d_b2_b5 sp ht' t'
      rintro t H n ⟨f0, f6, f7, f9, f10, b_b2, l_b2, b_b5, l_b5, d_b2_b5⟩
      refine Stk.on ?_
      refine Stk.bn ?_
      refine Stk.rg ?_
      refine Stk.run 3 (fun t H n => t 0 = .sh (c176 a0) ∧ t 6 = .own b2 0 ∧ t 7 = .sc (.int .i64 x1.2.1) ∧ t 9 = .osl b5 0 (v7.set v6.toNat (IntKind.u8.wrap x12)).length (some (v7.set v6.toNat (IntKind.u8.wrap x12)).length) ∧ t 10 = .sc (.int .i64 (IntKind.i64.wrap (v6 + 1))) ∧ H b2 = some (.cells (c34 x1.1) 34) ∧ b2 < n ∧ H b5 = some (.cells (encs c5 (v7.set v6.toNat (IntKind.u8.wrap x12))) 5) ∧ b5 < n ∧ b2 ≠ b5) (fun J hJ => ?_) ?_
      · simp [-splice, f0, f6, f7, f9, f10, b_b2, b_b5]
        exact hJ _ _ _ ⟨by simp [f0], by simp [f6], by simp [f7], by simp [f9], by simp [-splice, f0, f6, f7, f9, f10, b_b2, b_b5], b_b2, l_b2, b_b5, l_b5, d_b2_b5⟩
      clear f0 f6 f7 f9 f10 b_b2 l_b2 b_b5 l_b5 d_b2_b5
      rintro t H n ⟨f0, f6, f7, f9, f10, b_b2, l_b2, b_b5, l_b5, d_b2_b5⟩
      refine Stk.on ?_
      exact Stk.ln μ (Nat.lt_succ_self _) (hJ2 _ _ _ _ ⟨(IntKind.i64.wrap (v6 + 1)), (v7.set v6.toNat (IntKind.u8.wrap x12)), h, f0, f6, f7, f9, f10, b_b2, l_b2, b_b5, l_b5, d_b2_b5⟩)
    · have h := cF hb10 h
      refine Stk.ex rfl ?_
      refine Stk.sq ?_
      refine Stk.rg ?_
      refine Stk.run 3 (fun t H n => t 4 = .osl b5 0 v7.length (some v7.length) ∧ t 5 = .sc (.int .i64 0) ∧ H b5 = some (.cells (encs c5 v7) 5) ∧ b5 < n) (fun J hJ => ?_) ?_
      · simp [-splice, f0, f6, f7, f9, f10, f33, b_b2, b_b5]
        exact hJ _ _ _ ⟨by simp [-splice, f0, f6, f7, f9, f10, f33, b_b2, b_b5], by simp [-splice, f0, f6, f7, f9, f10, f33, b_b2, b_b5], b_b5, l_b5⟩
      clear f0 f6 f7 f9 f10 f33 b_b2 l_b2 b_b5 l_b5 d_b2_b5
      rintro t H n ⟨f4, f5, b_b5, l_b5⟩
      refine Stk.on ?_
      refine Stk.rt ?_
      have hq := Option.some.inj h; subst hq
      exact (hr _ _ _ (.tup [.osl b5 0 v7.length (some v7.length), .sc (.int .i64 0)]) ([b5]) (by simp [f4, f5, b_b5]) (.inr (.inr (.tup (.cons (view_row fr5 b_b5 (by simp) _) (.cons (.free (rfl)) (.nil))))))).1
theorem ok_R16_Heap_Where (F : Nat) (a0 : handloomref16_Heap) (a1 : Int) (r : (Int × Int)) (h : R16_Heap_Where F a0 a1 = some r) : RunF Try.prog T.T 128 [.sh (c176 a0), .sc (.int .u64 a1)] (.tup [.sc (.int .i64 r.1), .sc (.int .i64 r.2)]) := by
  rw [R16_Heap_Where] at h
  refine RunF.z Try.func128 rfl rfl rfl rfl rfl (fun C hr => ?_)
  refine Stk.gen (fun t H n => t 0 = .sh (c176 a0) ∧ t 1 = .sc (.int .u64 a1)) ⟨by simp, by simp⟩ ?_
  rintro t H n ⟨f0, f1⟩
  refine Stk.sq ?_
  refine Stk.rg ?_
  refine Stk.run 2 (fun t H n => t 0 = .sh (c176 a0) ∧ t 1 = .sc (.int .u64 a1)) (fun J hJ => ?_) ?_
  · simp [-splice, f0, f1]
    exact hJ _ _ _ ⟨by simp [f0], by simp [f1]⟩
  clear f0 f1
  rintro t H n ⟨f0, f1⟩
  refine Stk.on ?_
  refine Stk.sq ?_
  refine Stk.sq ?_
  refine Stk.rg ?_
  refine Stk.run 2 (fun t H n => t 0 = .sh (c176 a0) ∧ t 1 = .sc (.int .u64 a1) ∧ t 10 = .sc (.bool false)) (fun J hJ => ?_) ?_
  · simp [-splice, f0, f1, eqPS108, eqPO108]
    exact hJ _ _ _ ⟨by simp [f0], by simp [f1], by simp [-splice, f0, f1, eqPS108, eqPO108]⟩
  clear f0 f1
  rintro t H n ⟨f0, f1, f10⟩
  refine Stk.on ?_
  refine Stk.cond false (by simp [f10]) (fun hb => ?_) (fun hb => ?_)
  · cases hb
  refine Stk.sk ?_
  refine Stk.sq ?_
  refine Stk.rg ?_
  refine Stk.run 2 (fun t H n => t 12 = .sh (c176 a0) ∧ t 13 = .sc (.int .u64 a1)) (fun J hJ => ?_) ?_
  · simp [-splice, f0, f1, f10]
    exact hJ _ _ _ ⟨by simp [-splice, f0, f1, f10], by simp [-splice, f0, f1, f10]⟩
  clear f0 f1 f10
  rintro t H n ⟨f12, f13⟩
  obtain ⟨x1, hx1, h⟩ := bnd h
  refine Stk.cv (g := 145) (args := [.sh (c176 a0), .sc (.int .u64 a1)]) (args' := [.sh (c176 a0), .sc (.int .u64 a1)]) (v := .tup [.agg (c34 x1.1), .sc (.int .i64 x1.2.1), .sc (.bool x1.2.2)]) [] (ok_R16_Heap_record F _ _ _ hx1) (by simp [f12, f13]) rfl rfl (by simp [f12, f13]) (.cons (.free (by simp only [free]; exact fr176 _)) (.cons (.free (rfl)) (.nil))) (.inl ⟨rfl, by simp [free, freeL, fr34]⟩) (fun t' ht' => ?_)
  refine Stk.gen (fun t H n => t 14 = .tup [.agg (c34 x1.1), .sc (.int .i64 x1.2.1), .sc (.bool x1.2.2)]) (by simp [ht']) ?_
  clear f12 f13 ht' t'
  rintro t H n f14
  refine Stk.run 4 (fun t H n => t 15 = .agg (c34 x1.1) ∧ t 16 = .sc (.int .i64 x1.2.1) ∧ t 17 = .sc (.bool x1.2.2)) (fun J hJ => ?_) ?_
  · simp [-splice, f14]
    exact hJ _ _ _ ⟨by simp [-splice, f14], by simp [-splice, f14], by simp [-splice, f14]⟩
  clear f14
  rintro t H n ⟨f15, f16, f17⟩
  refine Stk.om (mop_alloc T.t34 (cs := c34 (api_Head.mk 0 0 0)) rfl) (by simp [f15, f16, f17]) rfl (fun t' ht' => ?_)
  refine Stk.gen (fun t H n => ∃ b2, t 6 = .own b2 0 ∧ t 15 = .agg (c34 x1.1) ∧ t 16 = .sc (.int .i64 x1.2.1) ∧ t 17 = .sc (.bool x1.2.2) ∧ H b2 = some (.cells (c34 (api_Head.mk 0 0 0)) 34) ∧ b2 < n) ⟨n, by simp [ht'], by simp [ht', f15], by simp [ht', f16], by simp [ht', f17], upd_same _ _ _, Nat.lt_succ_self _⟩ ?_
  clear f15 f16 f17 ht' t'
  rintro t H n ⟨b2, f6, f15, f16, f17, b_b2, l_b2⟩
  refine Stk.om (mop_store (z := 3) rfl f6 b_b2 f15 (len34 _) (by rw [len34]; decide) (ok34 _) (st_34_0_34 _ _)) (by simp [f6, f15, f16, f17]) rfl (fun t' ht' => ?_)
  refine Stk.gen (fun t H n => t 16 = .sc (.int .i64 x1.2.1) ∧ t 17 = .sc (.bool x1.2.2)) ⟨by simp [ht', f16], by simp [ht', f17]⟩ ?_
  clear f6 f15 f16 f17 b_b2 l_b2 ht' t'
  rintro t H n ⟨f16, f17⟩
  refine Stk.run 2 (fun t H n => t 7 = .sc (.int .i64 x1.2.1) ∧ t 8 = .sc (.bool x1.2.2)) (fun J hJ => ?_) ?_
  · simp [-splice, f16, f17]
    exact hJ _ _ _ ⟨by simp [-splice, f16, f17], by simp [-splice, f16, f17]⟩
  clear f16 f17
  rintro t H n ⟨f7, f8⟩
  refine Stk.on ?_
  refine Stk.sq ?_
  refine Stk.sq ?_
  refine Stk.rg ?_
  refine Stk.run 2 (fun t H n => t 7 = .sc (.int .i64 x1.2.1) ∧ t 19 = .sc (.bool (!x1.2.2))) (fun J hJ => ?_) ?_
  · simp [-splice, f7, f8]
    exact hJ _ _ _ ⟨by simp [f7], by simp [-splice, f7, f8]⟩
  clear f7 f8
  rintro t H n ⟨f7, f19⟩
  refine Stk.on ?_
  refine Stk.cond (!x1.2.2) (by exact f19) (fun hb3 => ?_) (fun hb3 => ?_)
  · have h := cT hb3 h
    refine Stk.sq ?_
    refine Stk.rg ?_
    refine Stk.run 2 (fun t H n => t 4 = .sc (.int .i64 0) ∧ t 5 = .sc (.int .i64 22)) (fun J hJ => ?_) ?_
    · simp [-splice, f7, f19]
      exact hJ _ _ _ ⟨by simp [-splice, f7, f19], by simp [-splice, f7, f19]⟩
    clear f7 f19
    rintro t H n ⟨f4, f5⟩
    refine Stk.on ?_
    refine Stk.rt ?_
    have hq := Option.some.inj h; subst hq
    exact (hr _ _ _ (.tup [.sc (.int .i64 0), .sc (.int .i64 22)]) ([]) (by simp [f4, f5]) (.inr (.inr (.tup (.cons (.free (rfl)) (.cons (.free (rfl)) (.nil))))))).1
  · have h := cF hb3 h
    refine Stk.sk ?_
    refine Stk.sq ?_
    refine Stk.rg ?_
    refine Stk.run 3 (fun t H n => t 4 = .sc (.int .i64 x1.2.1) ∧ t 5 = .sc (.int .i64 0)) (fun J hJ => ?_) ?_
    · simp [-splice, f7, f19]
      exact hJ _ _ _ ⟨by simp [-splice, f7, f19], by simp [-splice, f7, f19]⟩
    clear f7 f19
    rintro t H n ⟨f4, f5⟩
    refine Stk.on ?_
    refine Stk.rt ?_
    have hq := Option.some.inj h; subst hq
    exact (hr _ _ _ (.tup [.sc (.int .i64 x1.2.1), .sc (.int .i64 0)]) ([]) (by simp [f4, f5]) (.inr (.inr (.tup (.cons (.free (rfl)) (.cons (.free (rfl)) (.nil))))))).1
theorem ok_R16_first (F : Nat) (a0 : api_Heap) (r : Int) (h : R16_first F a0 = some r) : RunF Try.prog T.T 119 [.agg (c93 a0)] (.sc (.int .i64 r)) := by
  rw [R16_first] at h
  refine RunF.z Try.func119 rfl rfl rfl rfl rfl (fun C hr => ?_)
  refine Stk.gen (fun t H n => t 0 = .agg (c93 a0)) (by simp) ?_
  rintro t H n f0
  refine Stk.sq ?_
  refine Stk.rg ?_
  refine Stk.om (mop_box T.t93 (cs := c93 a0) (by show partOk (t 0) = true; rw [f0]; rfl) (by show cellsOf (t 0) = _; rw [f0]; rfl)) (by simp [f0]) rfl (fun t' ht' => ?_)
  refine Stk.gen (fun t H n => ∃ b1, t 1 = .own b1 0 ∧ H b1 = some (.cells (c93 a0) 93) ∧ b1 < n) ⟨n, by simp [ht'], upd_same _ _ _, Nat.lt_succ_self _⟩ ?_
  clear f0 ht' t'
  rintro t H n ⟨b1, f1, b_b1, l_b1⟩
  refine Stk.run 1 (fun t H n => t 1 = .own b1 0 ∧ H b1 = some (.cells (c93 a0) 93) ∧ b1 < n) (fun J hJ => ?_) ?_
  · simp [-splice, f1, b_b1]
    exact hJ _ _ _ ⟨by simp [f1], b_b1, l_b1⟩
  clear f1 b_b1 l_b1
  rintro t H n ⟨f1, b_b1, l_b1⟩
  refine Stk.on ?_
  refine Stk.sq ?_
  refine Stk.sq ?_
  refine Stk.rg ?_
  refine Stk.run 2 (fun t H n => t 1 = .own b1 0 ∧ t 4 = .sc (.bool a0.Up) ∧ H b1 = some (.cells (c93 a0) 93) ∧ b1 < n) (fun J hJ => ?_) ?_
  · simp [-splice, f1, b_b1, ld_93_2_4]
    exact hJ _ _ _ ⟨by simp [f1], by simp [-splice, f1, b_b1, ld_93_2_4], b_b1, l_b1⟩
  clear f1 b_b1 l_b1
  rintro t H n ⟨f1, f4, b_b1, l_b1⟩
  refine Stk.on ?_
  refine Stk.cond a0.Up (by exact f4) (fun hb2 => ?_) (fun hb2 => ?_)
  · have h := cT hb2 h
    refine Stk.sq ?_
    refine Stk.rg ?_
    refine Stk.run 4 (fun t H n => t 2 = .sc (.int .i64 (IntKind.i64.wrap (a0.Half + 1)))) (fun J hJ => ?_) ?_
    · simp [-splice, f1, f4, b_b1, ld_93_1_3]
      exact hJ _ _ _ (by simp [-splice, f1, f4, b_b1, ld_93_1_3])
    clear f1 f4 b_b1 l_b1
    rintro t H n f2
    refine Stk.on ?_
    refine Stk.rt ?_
    have hq := Option.some.inj h; subst hq
    exact (hr _ _ _ (.sc (.int .i64 (IntKind.i64.wrap (a0.Half + 1)))) ([]) (by simp [f2]) (.inr (.inr (.free (rfl))))).1
  · have h := cF hb2 h
    refine Stk.sk ?_
    refine Stk.sq ?_
    refine Stk.rg ?_
    refine Stk.run 1 (fun t H n => t 2 = .sc (.int .i64 1)) (fun J hJ => ?_) ?_
    · simp [-splice, f1, f4, b_b1]
      exact hJ _ _ _ (by simp [-splice, f1, f4, b_b1])
    clear f1 f4 b_b1 l_b1
    rintro t H n f2
    refine Stk.on ?_
    refine Stk.rt ?_
    have hq := Option.some.inj h; subst hq
    exact (hr _ _ _ (.sc (.int .i64 1)) ([]) (by simp [f2]) (.inr (.inr (.free (rfl))))).1
theorem ok_R16_Heap_Room (F : Nat) (a0 : handloomref16_Heap) (r : Int) (h : R16_Heap_Room F a0 = some r) : RunF Try.prog T.T 70 [.sh (c176 a0)] (.sc (.int .i64 r)) := by
  rw [R16_Heap_Room] at h
  refine RunF.z Try.func70 rfl rfl rfl rfl rfl (fun C hr => ?_)
  refine Stk.gen (fun t H n => t 0 = .sh (c176 a0)) (by simp) ?_
  rintro t H n f0
  refine Stk.sq ?_
  refine Stk.rg ?_
  refine Stk.run 1 (fun t H n => t 0 = .sh (c176 a0)) (fun J hJ => ?_) ?_
  · simp [-splice, f0]
    exact hJ _ _ _ (by simp [f0])
  clear f0
  rintro t H n f0
  refine Stk.on ?_
  refine Stk.sq ?_
  refine Stk.sq ?_
  refine Stk.rg ?_
  refine Stk.run 2 (fun t H n => t 0 = .sh (c176 a0) ∧ t 4 = .sc (.bool false)) (fun J hJ => ?_) ?_
  · simp [-splice, f0, eqPS108, eqPO108]
    exact hJ _ _ _ ⟨by simp [f0], by simp [-splice, f0, eqPS108, eqPO108]⟩
  clear f0
  rintro t H n ⟨f0, f4⟩
  refine Stk.on ?_
  refine Stk.cond false (by simp [f4]) (fun hb => ?_) (fun hb => ?_)
  · cases hb
  refine Stk.sk ?_
  refine Stk.sq ?_
  obtain ⟨n0, hn0⟩ : ∃ m, m = n := ⟨n, rfl⟩
  have ln0 : n0 ≤ n := Nat.le_of_eq hn0
  refine Stk.rgD [.rd [], .rd [], .rd [], .rd [], .rd [], .rd [], .rd [], .rd [], .rd [], .rd [], .rd [], .rd [], .rd [], .rd [], .rd [], .rd [], .rd [], .rd []] none (by kernel_rfl) (by rfl) rfl (by simp [below]) rfl ?_
  refine Stk.runD 4 (fun t H n => t 0 = .sh (c176 a0) ∧ t 8 = .agg (c93 a0.H) ∧ n0 ≤ n) (fun J hJ => ?_) ?_
  · simp [-splice, f0, f4, pd93, ld_176_0_93]
    exact hJ _ _ _ ⟨by simp [f0], by simp [-splice, f0, f4, pd93, ld_176_0_93], ln0⟩
  clear f0 f4 ln0
  rintro t H n ⟨f0, f8, ln0⟩
  obtain ⟨x1, hx1, h⟩ := bnd h
  refine Stk.cvD (g := 119) (args := [.agg (c93 a0.H)]) (args' := [.agg (c93 a0.H)]) (v := .sc (.int .i64 x1)) [] (ok_R16_first F _ _ hx1) rfl (by simp) rfl (by simp [f0, f8]) rfl rfl (by simp [f0, f8]) (.cons (.free (fr93 _)) (.nil)) (.inl ⟨rfl, rfl⟩) (fun t' ht' => ?_)
  refine Stk.gen (fun t H n => t 0 = .sh (c176 a0) ∧ t 9 = .sc (.int .i64 x1) ∧ n0 ≤ n) ⟨by simp [ht', f0], by simp [ht'], ln0⟩ ?_
  clear f0 f8 ln0 ht' t'
  rintro t H n ⟨f0, f9, ln0⟩
  refine Stk.runD 13 (fun t H n => t 2 = .sc (.int .i64 (IntKind.i64.wrap ((IntKind.i64.wrap (x1 + a0.H.Half)) - a0.H.Next))) ∧ n0 ≤ n) (fun J hJ => ?_) ?_
  · simp [-splice, f0, f9, pd3, ld_176_1_3, ld_176_3_3]
    exact hJ _ _ _ ⟨by simp [-splice, f0, f9, pd3, ld_176_1_3, ld_176_3_3], ln0⟩
  clear f0 f9 ln0
  rintro t H n ⟨f2, ln0⟩
  refine Stk.onD ?_
  refine Stk.rt ?_
  have hq := Option.some.inj h; subst hq
  exact (hr _ _ _ (.sc (.int .i64 (IntKind.i64.wrap ((IntKind.i64.wrap (x1 + a0.H.Half)) - a0.H.Next)))) ([]) (by simp [f2]) (.inr (.inr (.free (rfl))))).1
theorem ok_R16_Heap_Begin (F : Nat) (a0 : handloomref16_Heap) (r : Int) (h : R16_Heap_Begin F a0 = some r) : RunF Try.prog T.T 71 [.sh (c176 a0)] (.sc (.int .i64 r)) := by
  rw [R16_Heap_Begin] at h
  refine RunF.z Try.func71 rfl rfl rfl rfl rfl (fun C hr => ?_)
  refine Stk.gen (fun t H n => t 0 = .sh (c176 a0)) (by simp) ?_
  rintro t H n f0
  refine Stk.sq ?_
  refine Stk.rg ?_
  refine Stk.run 1 (fun t H n => t 0 = .sh (c176 a0)) (fun J hJ => ?_) ?_
  · simp [-splice, f0]
    exact hJ _ _ _ (by simp [f0])
  clear f0
  rintro t H n f0
  refine Stk.on ?_
  refine Stk.sq ?_
  refine Stk.sq ?_
  refine Stk.rg ?_
  refine Stk.run 2 (fun t H n => t 0 = .sh (c176 a0) ∧ t 4 = .sc (.bool false)) (fun J hJ => ?_) ?_
  · simp [-splice, f0, eqPS108, eqPO108]
    exact hJ _ _ _ ⟨by simp [f0], by simp [-splice, f0, eqPS108, eqPO108]⟩
  clear f0
  rintro t H n ⟨f0, f4⟩
  refine Stk.on ?_
  refine Stk.cond false (by simp [f4]) (fun hb => ?_) (fun hb => ?_)
  · cases hb
  refine Stk.sk ?_
  refine Stk.sq ?_
  refine Stk.rg ?_
  refine Stk.run 4 (fun t H n => t 8 = .agg (c93 a0.H)) (fun J hJ => ?_) ?_
  · simp [-splice, f0, f4, pd93, ld_176_0_93]
    exact hJ _ _ _ (by simp [-splice, f0, f4, pd93, ld_176_0_93])
  clear f0 f4
  rintro t H n f8
  obtain ⟨x1, hx1, h⟩ := bnd h
  refine Stk.cv (g := 119) (args := [.agg (c93 a0.H)]) (args' := [.agg (c93 a0.H)]) (v := .sc (.int .i64 x1)) [] (ok_R16_first F _ _ hx1) (by simp [f8]) rfl rfl (by simp [f8]) (.cons (.free (fr93 _)) (.nil)) (.inl ⟨rfl, rfl⟩) (fun t' ht' => ?_)
  refine Stk.gen (fun t H n => t 9 = .sc (.int .i64 x1)) (by simp [ht']) ?_
  clear f8 ht' t'
  rintro t H n f9
  refine Stk.run 1 (fun t H n => t 2 = .sc (.int .i64 x1)) (fun J hJ => ?_) ?_
  · simp [-splice, f9]
    exact hJ _ _ _ (by simp [-splice, f9])
  clear f9
  rintro t H n f2
  refine Stk.on ?_
  refine Stk.rt ?_
  have hq := Option.some.inj h; subst hq
  exact (hr _ _ _ (.sc (.int .i64 x1)) ([]) (by simp [f2]) (.inr (.inr (.free (rfl))))).1
theorem ok_R16_Heap_Next (F : Nat) (a0 : handloomref16_Heap) (r : Int) (h : R16_Heap_Next F a0 = some r) : RunF Try.prog T.T 72 [.sh (c176 a0)] (.sc (.int .i64 r)) := by
  rw [R16_Heap_Next] at h
  refine RunF.z Try.func72 rfl rfl rfl rfl rfl (fun C hr => ?_)
  refine Stk.gen (fun t H n => t 0 = .sh (c176 a0)) (by simp) ?_
  rintro t H n f0
  refine Stk.sq ?_
  refine Stk.rg ?_
  refine Stk.run 1 (fun t H n => t 0 = .sh (c176 a0)) (fun J hJ => ?_) ?_
  · simp [-splice, f0]
    exact hJ _ _ _ (by simp [f0])
  clear f0
  rintro t H n f0
  refine Stk.on ?_
  refine Stk.sq ?_
  refine Stk.sq ?_
  refine Stk.rg ?_
  refine Stk.run 2 (fun t H n => t 0 = .sh (c176 a0) ∧ t 4 = .sc (.bool false)) (fun J hJ => ?_) ?_
  · simp [-splice, f0, eqPS108, eqPO108]
    exact hJ _ _ _ ⟨by simp [f0], by simp [-splice, f0, eqPS108, eqPO108]⟩
  clear f0
  rintro t H n ⟨f0, f4⟩
  refine Stk.on ?_
  refine Stk.cond false (by simp [f4]) (fun hb => ?_) (fun hb => ?_)
  · cases hb
  refine Stk.sk ?_
  refine Stk.sq ?_
  refine Stk.rg ?_
  refine Stk.run 6 (fun t H n => t 2 = .sc (.int .i64 a0.H.Next)) (fun J hJ => ?_) ?_
  · simp [-splice, f0, f4, pd3, ld_176_3_3]
    exact hJ _ _ _ (by simp [-splice, f0, f4, pd3, ld_176_3_3])
  clear f0 f4
  rintro t H n f2
  refine Stk.on ?_
  refine Stk.rt ?_
  have hq := Option.some.inj h; subst hq
  exact (hr _ _ _ (.sc (.int .i64 a0.H.Next)) ([]) (by simp [f2]) (.inr (.inr (.free (rfl))))).1
theorem ok_R16_Heap_Used (F : Nat) (a0 : handloomref16_Heap) (a1 : Int) (r : Bool) (h : R16_Heap_Used F a0 a1 = some r) : RunF Try.prog T.T 148 [.sh (c176 a0), .sc (.int .i64 a1)] (.sc (.bool r)) := by
  rw [R16_Heap_Used] at h
  refine RunF.z Try.func148 rfl rfl rfl rfl rfl (fun C hr => ?_)
  refine Stk.gen (fun t H n => t 0 = .sh (c176 a0) ∧ t 1 = .sc (.int .i64 a1)) ⟨by simp, by simp⟩ ?_
  rintro t H n ⟨f0, f1⟩
  refine Stk.sq ?_
  refine Stk.rg ?_
  refine Stk.run 1 (fun t H n => t 0 = .sh (c176 a0) ∧ t 1 = .sc (.int .i64 a1)) (fun J hJ => ?_) ?_
  · simp [-splice, f0, f1]
    exact hJ _ _ _ ⟨by simp [f0], by simp [f1]⟩
  clear f0 f1
  rintro t H n ⟨f0, f1⟩
  refine Stk.on ?_
  refine Stk.sq ?_
  obtain ⟨n0, hn0⟩ : ∃ m, m = n := ⟨n, rfl⟩
  have ln0 : n0 ≤ n := Nat.le_of_eq hn0
  refine Stk.rgD [.rd [], .rd [], .rd [], .rd [], .rd [], .rd [], .rd [], .rd [], .rd [], .rd [], .rd [], .rd [], .rd [], .rd [], .rd [], .rd [], .rd [], .rd [], .rd [], .rd [], .rd [], .rd [], .rd []] none (by kernel_rfl) (by rfl) rfl (by simp [below]) rfl ?_
  refine Stk.runD 5 (fun t H n => t 0 = .sh (c176 a0) ∧ t 1 = .sc (.int .i64 a1) ∧ t 5 = .sc (.int .i64 a1) ∧ t 9 = .agg (c93 a0.H) ∧ n0 ≤ n) (fun J hJ => ?_) ?_
  · simp [-splice, f0, f1, pd93, ld_176_0_93]
    exact hJ _ _ _ ⟨by simp [f0], by simp [f1], by simp [-splice, f0, f1, pd93, ld_176_0_93], by simp [-splice, f0, f1, pd93, ld_176_0_93], ln0⟩
  clear f0 f1 ln0
  rintro t H n ⟨f0, f1, f5, f9, ln0⟩
  obtain ⟨x1, hx1, h⟩ := bnd h
  refine Stk.cvD (g := 119) (args := [.agg (c93 a0.H)]) (args' := [.agg (c93 a0.H)]) (v := .sc (.int .i64 x1)) [] (ok_R16_first F _ _ hx1) rfl (by simp) rfl (by simp [f0, f1, f5, f9]) rfl rfl (by simp [f0, f1, f5, f9]) (.cons (.free (fr93 _)) (.nil)) (.inl ⟨rfl, rfl⟩) (fun t' ht' => ?_)
  refine Stk.gen (fun t H n => t 0 = .sh (c176 a0) ∧ t 1 = .sc (.int .i64 a1) ∧ t 5 = .sc (.int .i64 a1) ∧ t 10 = .sc (.int .i64 x1) ∧ n0 ≤ n) ⟨by simp [ht', f0], by simp [ht', f1], by simp [ht', f5], by simp [ht'], ln0⟩ ?_
  clear f0 f1 f5 f9 ln0 ht' t'
  rintro t H n ⟨f0, f1, f5, f10, ln0⟩
  refine Stk.runD 2 (fun t H n => t 0 = .sh (c176 a0) ∧ t 1 = .sc (.int .i64 a1) ∧ t 12 = .sc (.bool (decide (x1 ≤ a1))) ∧ n0 ≤ n) (fun J hJ => ?_) ?_
  · simp [-splice, f0, f1, f5, f10]
    exact hJ _ _ _ ⟨by simp [f0], by simp [f1], by simp [-splice, f0, f1, f5, f10], ln0⟩
  clear f0 f1 f5 f10 ln0
  rintro t H n ⟨f0, f1, f12, ln0⟩
  obtain ⟨K1, hK1, h⟩ := jnd h
  refine Stk.jd 14 (fun t H n => ∃ v2 : Bool, K1 v2 = some r ∧ t 26 = .sc (.bool v2)) (fun J1 hJ1 => ?_) ?_
  · rcases Bool.eq_false_or_eq_true (decide (x1 ≤ a1)) with hb1 | hb1
    · rw [hb1] at f12
      replace h := cT hb1 h
      refine Stk.runD 5 (fun t H n => t 0 = .sh (c176 a0) ∧ t 12 = .sc (.bool true) ∧ t 13 = .sc (.int .i64 a1) ∧ t 17 = .agg (c93 a0.H) ∧ n0 ≤ n) (fun J hJ => ?_) ?_
      · simp [-splice, f0, f1, f12, pd93, ld_176_0_93]
        exact hJ _ _ _ ⟨by simp [f0], by simp [f12], by simp [-splice, f0, f1, f12, pd93, ld_176_0_93], by simp [-splice, f0, f1, f12, pd93, ld_176_0_93], ln0⟩
      clear f0 f1 f12 ln0
      rintro t H n ⟨f0, f12, f13, f17, ln0⟩
      obtain ⟨x3, hx3, h⟩ := bnd h
      refine Stk.cvD (g := 119) (args := [.agg (c93 a0.H)]) (args' := [.agg (c93 a0.H)]) (v := .sc (.int .i64 x3)) [] (ok_R16_first F _ _ hx3) rfl (by simp) rfl (by simp [f0, f12, f13, f17]) rfl rfl (by simp [f0, f12, f13, f17]) (.cons (.free (fr93 _)) (.nil)) (.inl ⟨rfl, rfl⟩) (fun t' ht' => ?_)
      refine Stk.gen (fun t H n => t 0 = .sh (c176 a0) ∧ t 12 = .sc (.bool true) ∧ t 13 = .sc (.int .i64 a1) ∧ t 18 = .sc (.int .i64 x3) ∧ n0 ≤ n) ⟨by simp [ht', f0], by simp [ht', f12], by simp [ht', f13], by simp [ht'], ln0⟩ ?_
      clear f0 f12 f13 f17 ln0 ht' t'
      rintro t H n ⟨f0, f12, f13, f18, ln0⟩
      refine Stk.runD 8 (fun t H n => t 26 = .sc (.bool (decide (a1 < (IntKind.i64.wrap (x3 + a0.H.Half))))) ∧ n0 ≤ n) (fun J hJ => ?_) ?_
      · simp [-splice, f0, f12, f13, f18, pd3, ld_176_1_3]
        exact hJ _ _ _ ⟨by simp [-splice, f0, f12, f13, f18, pd3, ld_176_1_3], ln0⟩
      clear f0 f12 f13 f18 ln0
      rintro t H n ⟨f26, ln0⟩
      refine Stk.onD ?_
      exact Stk.ln 0 (by decide) (hJ1 _ _ _ ⟨(decide (a1 < (IntKind.i64.wrap (x3 + a0.H.Half)))), h, f26⟩)
    · rw [hb1] at f12
      replace h := cF hb1 h
      refine Stk.runD 14 (fun t H n => t 26 = .sc (.bool false) ∧ n0 ≤ n) (fun J hJ => ?_) ?_
      · simp [-splice, f0, f1, f12]
        exact hJ _ _ _ ⟨by simp [-splice, f0, f1, f12], ln0⟩
      clear f0 f1 f12 ln0
      rintro t H n ⟨f26, ln0⟩
      refine Stk.onD ?_
      exact Stk.ln 0 (by decide) (hJ1 _ _ _ ⟨false, h, f26⟩)
  clear h f0 f1 f12 ln0
  rintro t H n ⟨v2, h, f26⟩
  subst hK1
  refine Stk.runD 1 (fun t H n => t 4 = .sc (.bool v2)) (fun J hJ => ?_) ?_
  · simp [-splice, f26]
    exact hJ _ _ _ (by simp [-splice, f26])
  clear f26
  rintro t H n f4
  refine Stk.onD ?_
  refine Stk.rt ?_
  have hq := Option.some.inj h; subst hq
  exact (hr _ _ _ (.sc (.bool v2)) ([]) (by simp [f4]) (.inr (.inr (.free (rfl))))).1
theorem ok_L16_bytes (F : Nat) (a0 : (List Int)) (a1 : (List Int)) (r : Bool) (h : L16_bytes F a0 a1 = some r) : RunF Try.prog T.T 64 [.ssl (encs c5 a0) a0.length false, .ssl (encs c5 a1) a1.length false] (.sc (.bool r)) := by
  rw [L16_bytes] at h
  refine RunF.z Try.func64 rfl rfl rfl rfl rfl (fun C hr => ?_)
  refine Stk.gen (fun t H n => t 0 = .ssl (encs c5 a0) a0.length false ∧ t 1 = .ssl (encs c5 a1) a1.length false) ⟨by simp, by simp⟩ ?_
  rintro t H n ⟨f0, f1⟩
  refine Stk.sq ?_
  refine Stk.rg ?_
  refine Stk.run 1 (fun t H n => t 0 = .ssl (encs c5 a0) a0.length false ∧ t 1 = .ssl (encs c5 a1) a1.length false) (fun J hJ => ?_) ?_
  · simp [-splice, f0, f1]
    exact hJ _ _ _ ⟨by simp [f0], by simp [f1]⟩
  clear f0 f1
  rintro t H n ⟨f0, f1⟩
  refine Stk.on ?_
  refine Stk.sq ?_
  refine Stk.rg ?_
  refine Stk.run 1 (fun t H n => t 1 = .ssl (encs c5 a1) a1.length false ∧ t 5 = .ssl (encs c5 a0) a0.length false) (fun J hJ => ?_) ?_
  · simp [-splice, f0, f1]
    exact hJ _ _ _ ⟨by simp [f1], by simp [-splice, f0, f1]⟩
  clear f0 f1
  rintro t H n ⟨f1, f5⟩
  refine Stk.ov (vop_text (c := c5) (fun _ => rfl) T.t35 rfl T.t9 rfl rfl f5) (by simp [f1, f5]) rfl (fun t' ht' => ?_)
  refine Stk.gen (fun t H n => t 1 = .ssl (encs c5 a1) a1.length false ∧ t 6 = .sc (.string (textOf a0))) ⟨by simp [ht', f1], by simp [ht']⟩ ?_
  clear f1 f5 ht' t'
  rintro t H n ⟨f1, f6⟩
  refine Stk.run 1 (fun t H n => t 6 = .sc (.string (textOf a0)) ∧ t 7 = .ssl (encs c5 a1) a1.length false) (fun J hJ => ?_) ?_
  · simp [-splice, f1, f6]
    exact hJ _ _ _ ⟨by simp [f6], by simp [-splice, f1, f6]⟩
  clear f1 f6
  rintro t H n ⟨f6, f7⟩
  refine Stk.ov (vop_text (c := c5) (fun _ => rfl) T.t35 rfl T.t9 rfl rfl f7) (by simp [f6, f7]) rfl (fun t' ht' => ?_)
  refine Stk.gen (fun t H n => t 6 = .sc (.string (textOf a0)) ∧ t 8 = .sc (.string (textOf a1))) ⟨by simp [ht', f6], by simp [ht']⟩ ?_
  clear f6 f7 ht' t'
  rintro t H n ⟨f6, f8⟩
  refine Stk.run 2 (fun t H n => t 4 = .sc (.bool ((textOf a0).toList == (textOf a1).toList))) (fun J hJ => ?_) ?_
  · simp [-splice, f6, f8]
    exact hJ _ _ _ (by simp [-splice, f6, f8])
  clear f6 f8
  rintro t H n f4
  refine Stk.on ?_
  refine Stk.rt ?_
  have hq := Option.some.inj h; subst hq
  exact (hr _ _ _ (.sc (.bool ((textOf a0).toList == (textOf a1).toList))) ([]) (by simp [f4]) (.inr (.inr (.free (rfl))))).1
theorem ok_R16_Head (F : Nat) (a0 : api_Head) (r : (Int × Bool)) (h : R16_Head F a0 = some r) : RunF Try.prog T.T 56 [.agg (c34 a0)] (.tup [.sc (.int .u64 r.1), .sc (.bool r.2)]) := by
  rw [R16_Head] at h
  refine RunF.z Try.func56 rfl rfl rfl rfl rfl (fun C hr => ?_)
  refine Stk.gen (fun t H n => t 0 = .agg (c34 a0)) (by simp) ?_
  rintro t H n f0
  refine Stk.sq ?_
  refine Stk.rg ?_
  refine Stk.om (mop_box T.t34 (cs := c34 a0) (by show partOk (t 0) = true; rw [f0]; rfl) (by show cellsOf (t 0) = _; rw [f0]; rfl)) (by simp [f0]) rfl (fun t' ht' => ?_)
  refine Stk.gen (fun t H n => ∃ b1, t 1 = .own b1 0 ∧ H b1 = some (.cells (c34 a0) 34) ∧ b1 < n) ⟨n, by simp [ht'], upd_same _ _ _, Nat.lt_succ_self _⟩ ?_
  clear f0 ht' t'
  rintro t H n ⟨b1, f1, b_b1, l_b1⟩
  refine Stk.run 2 (fun t H n => t 1 = .own b1 0 ∧ H b1 = some (.cells (c34 a0) 34) ∧ b1 < n) (fun J hJ => ?_) ?_
  · simp [-splice, f1, b_b1]
    exact hJ _ _ _ ⟨by simp [f1], b_b1, l_b1⟩
  clear f1 b_b1 l_b1
  rintro t H n ⟨f1, b_b1, l_b1⟩
  refine Stk.on ?_
  refine Stk.sq ?_
  refine Stk.sq ?_
  refine Stk.rg ?_
  refine Stk.run 1 (fun t H n => t 1 = .own b1 0 ∧ t 4 = .agg (c34 a0) ∧ H b1 = some (.cells (c34 a0) 34) ∧ b1 < n) (fun J hJ => ?_) ?_
  · simp [-splice, f1, b_b1, ld_34_0_34]
    exact hJ _ _ _ ⟨by simp [f1], by simp [-splice, f1, b_b1, ld_34_0_34], b_b1, l_b1⟩
  clear f1 b_b1 l_b1
  rintro t H n ⟨f1, f4, b_b1, l_b1⟩
  obtain ⟨x2, hx2, h⟩ := bnd h
  refine Stk.cv (g := 92) (args := [.agg (c34 a0)]) (args' := [.agg (c34 a0)]) (v := .sc (.bool x2)) [] (ok_R16_can F _ _ hx2) (by simp [f1, f4]) rfl rfl (by simp [f1, f4]) (.cons (.free (fr34 _)) (.nil)) (.inl ⟨rfl, rfl⟩) (fun t' ht' => ?_)
  refine Stk.gen (fun t H n => t 1 = .own b1 0 ∧ t 5 = .sc (.bool x2) ∧ H b1 = some (.cells (c34 a0) 34) ∧ b1 < n) ⟨by simp [ht', f1], by simp [ht'], b_b1, l_b1⟩ ?_
  clear f1 f4 b_b1 l_b1 ht' t'
  rintro t H n ⟨f1, f5, b_b1, l_b1⟩
  refine Stk.run 1 (fun t H n => t 1 = .own b1 0 ∧ t 6 = .sc (.bool (!x2)) ∧ H b1 = some (.cells (c34 a0) 34) ∧ b1 < n) (fun J hJ => ?_) ?_
  · simp [-splice, f1, f5, b_b1]
    exact hJ _ _ _ ⟨by simp [f1], by simp [-splice, f1, f5, b_b1], b_b1, l_b1⟩
  clear f1 f5 b_b1 l_b1
  rintro t H n ⟨f1, f6, b_b1, l_b1⟩
  refine Stk.on ?_
  refine Stk.cond (!x2) (by exact f6) (fun hb3 => ?_) (fun hb3 => ?_)
  · have h := cT hb3 h
    refine Stk.sq ?_
    refine Stk.rg ?_
    refine Stk.run 2 (fun t H n => t 2 = .sc (.int .u64 0) ∧ t 3 = .sc (.bool false)) (fun J hJ => ?_) ?_
    · simp [-splice, f1, f6, b_b1]
      exact hJ _ _ _ ⟨by simp [-splice, f1, f6, b_b1], by simp [-splice, f1, f6, b_b1]⟩
    clear f1 f6 b_b1 l_b1
    rintro t H n ⟨f2, f3⟩
    refine Stk.on ?_
    refine Stk.rt ?_
    have hq := Option.some.inj h; subst hq
    exact (hr _ _ _ (.tup [.sc (.int .u64 0), .sc (.bool false)]) ([]) (by simp [f2, f3]) (.inr (.inr (.tup (.cons (.free (rfl)) (.cons (.free (rfl)) (.nil))))))).1
  · have h := cF hb3 h
    refine Stk.sk ?_
    refine Stk.sq ?_
    refine Stk.rg ?_
    refine Stk.run 15 (fun t H n => t 2 = .sc (.int .u64 (IntKind.u64.wrap ((IntKind.u64.wrap ((IntKind.u64.wrap a0.Count) + (IntKind.u64.wrap (256 * (IntKind.u64.wrap a0.Tag))))) + (IntKind.u64.wrap (65536 * (IntKind.u64.wrap a0.Kind)))))) ∧ t 3 = .sc (.bool true)) (fun J hJ => ?_) ?_
    · simp [-splice, f1, f6, b_b1, ld_34_2_3, ld_34_1_3, ld_34_0_3]
      exact hJ _ _ _ ⟨by simp [-splice, f1, f6, b_b1, ld_34_2_3, ld_34_1_3, ld_34_0_3], by simp [-splice, f1, f6, b_b1, ld_34_2_3, ld_34_1_3, ld_34_0_3]⟩
    clear f1 f6 b_b1 l_b1
    rintro t H n ⟨f2, f3⟩
    refine Stk.on ?_
    refine Stk.rt ?_
    have hq := Option.some.inj h; subst hq
    exact (hr _ _ _ (.tup [.sc (.int .u64 (IntKind.u64.wrap ((IntKind.u64.wrap ((IntKind.u64.wrap a0.Count) + (IntKind.u64.wrap (256 * (IntKind.u64.wrap a0.Tag))))) + (IntKind.u64.wrap (65536 * (IntKind.u64.wrap a0.Kind)))))), .sc (.bool true)]) ([]) (by simp [f2, f3]) (.inr (.inr (.tup (.cons (.free (rfl)) (.cons (.free (rfl)) (.nil))))))).1
theorem ok_R01_Ptr (F : Nat) (a0 : Int) (r : Int) (h : R01_Ptr F a0 = some r) : RunF Try.prog T.T 120 [.sc (.int .u32 a0)] (.sc (.int .u64 r)) := by
  rw [R01_Ptr] at h
  refine RunF.z Try.func120 rfl rfl rfl rfl rfl (fun C hr => ?_)
  refine Stk.gen (fun t H n => t 0 = .sc (.int .u32 a0)) (by simp) ?_
  rintro t H n f0
  refine Stk.sq ?_
  refine Stk.rg ?_
  refine Stk.run 1 (fun t H n => t 0 = .sc (.int .u32 a0)) (fun J hJ => ?_) ?_
  · simp [-splice, f0]
    exact hJ _ _ _ (by simp [f0])
  clear f0
  rintro t H n f0
  refine Stk.on ?_
  refine Stk.sq ?_
  refine Stk.rg ?_
  refine Stk.run 4 (fun t H n => t 2 = .sc (.int .u64 (IntKind.u64.wrap (2 * (IntKind.u64.wrap a0))))) (fun J hJ => ?_) ?_
  · simp [-splice, f0]
    exact hJ _ _ _ (by simp [-splice, f0])
  clear f0
  rintro t H n f2
  refine Stk.on ?_
  refine Stk.rt ?_
  have hq := Option.some.inj h; subst hq
  exact (hr _ _ _ (.sc (.int .u64 (IntKind.u64.wrap (2 * (IntKind.u64.wrap a0))))) ([]) (by simp [f2]) (.inr (.inr (.free (rfl))))).1
theorem ok_heap_begin (F : Nat) (a0 : api_Heap) (r : Int) (h : heap_begin F a0 = some r) : RunF Try.prog T.T 95 [.agg (c93 a0)] (.sc (.int .i64 r)) := by
  rw [heap_begin] at h
  refine RunF.z Try.func95 rfl rfl rfl rfl rfl (fun C hr => ?_)
  refine Stk.gen (fun t H n => t 0 = .agg (c93 a0)) (by simp) ?_
  rintro t H n f0
  refine Stk.sq ?_
  refine Stk.rg ?_
  refine Stk.om (mop_box T.t93 (cs := c93 a0) (by show partOk (t 0) = true; rw [f0]; rfl) (by show cellsOf (t 0) = _; rw [f0]; rfl)) (by simp [f0]) rfl (fun t' ht' => ?_)
  refine Stk.gen (fun t H n => ∃ b1, t 1 = .own b1 0 ∧ H b1 = some (.cells (c93 a0) 93) ∧ b1 < n) ⟨n, by simp [ht'], upd_same _ _ _, Nat.lt_succ_self _⟩ ?_
  clear f0 ht' t'
  rintro t H n ⟨b1, f1, b_b1, l_b1⟩
  refine Stk.run 1 (fun t H n => t 1 = .own b1 0 ∧ H b1 = some (.cells (c93 a0) 93) ∧ b1 < n) (fun J hJ => ?_) ?_
  · simp [-splice, f1, b_b1]
    exact hJ _ _ _ ⟨by simp [f1], b_b1, l_b1⟩
  clear f1 b_b1 l_b1
  rintro t H n ⟨f1, b_b1, l_b1⟩
  refine Stk.on ?_
  refine Stk.sq ?_
  refine Stk.sq ?_
  refine Stk.rg ?_
  refine Stk.run 2 (fun t H n => t 1 = .own b1 0 ∧ t 4 = .sc (.bool a0.Up) ∧ H b1 = some (.cells (c93 a0) 93) ∧ b1 < n) (fun J hJ => ?_) ?_
  · simp [-splice, f1, b_b1, ld_93_2_4]
    exact hJ _ _ _ ⟨by simp [f1], by simp [-splice, f1, b_b1, ld_93_2_4], b_b1, l_b1⟩
  clear f1 b_b1 l_b1
  rintro t H n ⟨f1, f4, b_b1, l_b1⟩
  refine Stk.on ?_
  refine Stk.cond a0.Up (by exact f4) (fun hb2 => ?_) (fun hb2 => ?_)
  · have h := cT hb2 h
    refine Stk.sq ?_
    refine Stk.rg ?_
    refine Stk.run 4 (fun t H n => t 2 = .sc (.int .i64 (IntKind.i64.wrap (a0.Half + 1)))) (fun J hJ => ?_) ?_
    · simp [-splice, f1, f4, b_b1, ld_93_1_3]
      exact hJ _ _ _ (by simp [-splice, f1, f4, b_b1, ld_93_1_3])
    clear f1 f4 b_b1 l_b1
    rintro t H n f2
    refine Stk.on ?_
    refine Stk.rt ?_
    have hq := Option.some.inj h; subst hq
    exact (hr _ _ _ (.sc (.int .i64 (IntKind.i64.wrap (a0.Half + 1)))) ([]) (by simp [f2]) (.inr (.inr (.free (rfl))))).1
  · have h := cF hb2 h
    refine Stk.sk ?_
    refine Stk.sq ?_
    refine Stk.rg ?_
    refine Stk.run 1 (fun t H n => t 2 = .sc (.int .i64 1)) (fun J hJ => ?_) ?_
    · simp [-splice, f1, f4, b_b1]
      exact hJ _ _ _ (by simp [-splice, f1, f4, b_b1])
    clear f1 f4 b_b1 l_b1
    rintro t H n f2
    refine Stk.on ?_
    refine Stk.rt ?_
    have hq := Option.some.inj h; subst hq
    exact (hr _ _ _ (.sc (.int .i64 1)) ([]) (by simp [f2]) (.inr (.inr (.free (rfl))))).1
theorem ok_heap_can (F : Nat) (a0 : api_Head) (r : Bool) (h : heap_can F a0 = some r) : RunF Try.prog T.T 112 [.agg (c34 a0)] (.sc (.bool r)) := by
  rw [heap_can] at h
  refine RunF.z Try.func112 rfl rfl rfl rfl rfl (fun C hr => ?_)
  refine Stk.gen (fun t H n => t 0 = .agg (c34 a0)) (by simp) ?_
  rintro t H n f0
  refine Stk.sq ?_
  refine Stk.rg ?_
  refine Stk.om (mop_box T.t34 (cs := c34 a0) (by show partOk (t 0) = true; rw [f0]; rfl) (by show cellsOf (t 0) = _; rw [f0]; rfl)) (by simp [f0]) rfl (fun t' ht' => ?_)
  refine Stk.gen (fun t H n => ∃ b1, t 1 = .own b1 0 ∧ H b1 = some (.cells (c34 a0) 34) ∧ b1 < n) ⟨n, by simp [ht'], upd_same _ _ _, Nat.lt_succ_self _⟩ ?_
  clear f0 ht' t'
  rintro t H n ⟨b1, f1, b_b1, l_b1⟩
  refine Stk.run 1 (fun t H n => t 1 = .own b1 0 ∧ H b1 = some (.cells (c34 a0) 34) ∧ b1 < n) (fun J hJ => ?_) ?_
  · simp [-splice, f1, b_b1]
    exact hJ _ _ _ ⟨by simp [f1], b_b1, l_b1⟩
  clear f1 b_b1 l_b1
  rintro t H n ⟨f1, b_b1, l_b1⟩
  refine Stk.on ?_
  refine Stk.sq ?_
  refine Stk.sq ?_
  refine Stk.rg ?_
  refine Stk.run 2 (fun t H n => t 1 = .own b1 0 ∧ t 4 = .sc (.int .i64 a0.Kind) ∧ H b1 = some (.cells (c34 a0) 34) ∧ b1 < n) (fun J hJ => ?_) ?_
  · simp [-splice, f1, b_b1, ld_34_0_3]
    exact hJ _ _ _ ⟨by simp [f1], by simp [-splice, f1, b_b1, ld_34_0_3], b_b1, l_b1⟩
  clear f1 b_b1 l_b1
  rintro t H n ⟨f1, f4, b_b1, l_b1⟩
  refine Stk.on ?_
  refine Stk.bk ?_
  refine Stk.sq ?_
  refine Stk.rg ?_
  refine Stk.run 2 (fun t H n => t 1 = .own b1 0 ∧ t 4 = .sc (.int .i64 a0.Kind) ∧ t 5 = .sc (.bool (a0.Kind == 0)) ∧ H b1 = some (.cells (c34 a0) 34) ∧ b1 < n) (fun J hJ => ?_) ?_
  · simp [-splice, f1, f4, b_b1]
    exact hJ _ _ _ ⟨by simp [f1], by simp [f4], by simp [-splice, f1, f4, b_b1], b_b1, l_b1⟩
  clear f1 f4 b_b1 l_b1
  rintro t H n ⟨f1, f4, f5, b_b1, l_b1⟩
  refine Stk.on ?_
  refine Stk.cond (a0.Kind == 0) (by exact f5) (fun hb2 => ?_) (fun hb2 => ?_)
  · have h := cT hb2 h
    refine Stk.sq ?_
    refine Stk.rg ?_
    refine Stk.run 4 (fun t H n => t 1 = .own b1 0 ∧ t 10 = .sc (.bool (decide (0 ≤ a0.Tag))) ∧ H b1 = some (.cells (c34 a0) 34) ∧ b1 < n) (fun J hJ => ?_) ?_
    · simp [-splice, f1, f4, f5, b_b1, ld_34_1_3]
      exact hJ _ _ _ ⟨by simp [f1], by simp [-splice, f1, f4, f5, b_b1, ld_34_1_3], b_b1, l_b1⟩
    clear f1 f4 f5 b_b1 l_b1
    rintro t H n ⟨f1, f10, b_b1, l_b1⟩
    refine Stk.jo 4 (fun t H n => t 1 = .own b1 0 ∧ t 14 = .sc (.bool ((decide (0 ≤ a0.Tag)) && (decide (a0.Tag ≤ 15)))) ∧ H b1 = some (.cells (c34 a0) 34) ∧ b1 < n) (fun J1 hJ1 => ?_) ?_
    · rcases Bool.eq_false_or_eq_true (decide (0 ≤ a0.Tag)) with hb1 | hb1
      · rw [hb1] at f10
        refine Stk.run 4 (fun t H n => t 1 = .own b1 0 ∧ t 14 = .sc (.bool (decide (a0.Tag ≤ 15))) ∧ H b1 = some (.cells (c34 a0) 34) ∧ b1 < n) (fun J hJ => ?_) ?_
        · simp [-splice, f1, f10, b_b1, ld_34_1_3]
          exact hJ _ _ _ ⟨by simp [f1], by simp [-splice, f1, f10, b_b1, ld_34_1_3], b_b1, l_b1⟩
        clear f1 f10 b_b1 l_b1
        rintro t H n ⟨f1, f14, b_b1, l_b1⟩
        refine Stk.on ?_
        exact Stk.ln 0 (by decide) (hJ1 _ _ _ ⟨f1, f14.trans (congrArg (fun q => AV.sc (.bool q)) (by rw [hb1]; rfl)), b_b1, l_b1⟩)
      · rw [hb1] at f10
        refine Stk.run 4 (fun t H n => t 1 = .own b1 0 ∧ t 14 = .sc (.bool false) ∧ H b1 = some (.cells (c34 a0) 34) ∧ b1 < n) (fun J hJ => ?_) ?_
        · simp [-splice, f1, f10, b_b1]
          exact hJ _ _ _ ⟨by simp [f1], by simp [-splice, f1, f10, b_b1], b_b1, l_b1⟩
        clear f1 f10 b_b1 l_b1
        rintro t H n ⟨f1, f14, b_b1, l_b1⟩
        refine Stk.on ?_
        exact Stk.ln 0 (by decide) (hJ1 _ _ _ ⟨f1, f14.trans (congrArg (fun q => AV.sc (.bool q)) (by rw [hb1]; rfl)), b_b1, l_b1⟩)
    clear f1 f10 b_b1 l_b1
    rintro t H n ⟨f1, f14, b_b1, l_b1⟩
    refine Stk.run 1 (fun t H n => t 1 = .own b1 0 ∧ t 15 = .sc (.bool ((decide (0 ≤ a0.Tag)) && (decide (a0.Tag ≤ 15)))) ∧ H b1 = some (.cells (c34 a0) 34) ∧ b1 < n) (fun J hJ => ?_) ?_
    · simp [-splice, f1, f14, b_b1]
      exact hJ _ _ _ ⟨by simp [f1], by simp [-splice, f1, f14, b_b1], b_b1, l_b1⟩
    clear f1 f14 b_b1 l_b1
    rintro t H n ⟨f1, f15, b_b1, l_b1⟩
    refine Stk.jo 4 (fun t H n => t 1 = .own b1 0 ∧ t 19 = .sc (.bool (((decide (0 ≤ a0.Tag)) && (decide (a0.Tag ≤ 15))) && (decide (0 < a0.Count)))) ∧ H b1 = some (.cells (c34 a0) 34) ∧ b1 < n) (fun J2 hJ2 => ?_) ?_
    · rcases Bool.eq_false_or_eq_true ((decide (0 ≤ a0.Tag)) && (decide (a0.Tag ≤ 15))) with hb2 | hb2
      · rw [hb2] at f15
        refine Stk.run 4 (fun t H n => t 1 = .own b1 0 ∧ t 19 = .sc (.bool (decide (0 < a0.Count))) ∧ H b1 = some (.cells (c34 a0) 34) ∧ b1 < n) (fun J hJ => ?_) ?_
        · simp [-splice, f1, f15, b_b1, ld_34_2_3]
          exact hJ _ _ _ ⟨by simp [f1], by simp [-splice, f1, f15, b_b1, ld_34_2_3], b_b1, l_b1⟩
        clear f1 f15 b_b1 l_b1
        rintro t H n ⟨f1, f19, b_b1, l_b1⟩
        refine Stk.on ?_
        exact Stk.ln 0 (by decide) (hJ2 _ _ _ ⟨f1, f19.trans (congrArg (fun q => AV.sc (.bool q)) (by rw [hb2]; rfl)), b_b1, l_b1⟩)
      · rw [hb2] at f15
        refine Stk.run 4 (fun t H n => t 1 = .own b1 0 ∧ t 19 = .sc (.bool false) ∧ H b1 = some (.cells (c34 a0) 34) ∧ b1 < n) (fun J hJ => ?_) ?_
        · simp [-splice, f1, f15, b_b1]
          exact hJ _ _ _ ⟨by simp [f1], by simp [-splice, f1, f15, b_b1], b_b1, l_b1⟩
        clear f1 f15 b_b1 l_b1
        rintro t H n ⟨f1, f19, b_b1, l_b1⟩
        refine Stk.on ?_
        exact Stk.ln 0 (by decide) (hJ2 _ _ _ ⟨f1, f19.trans (congrArg (fun q => AV.sc (.bool q)) (by rw [hb2]; rfl)), b_b1, l_b1⟩)
    clear f1 f15 b_b1 l_b1
    rintro t H n ⟨f1, f19, b_b1, l_b1⟩
    refine Stk.run 1 (fun t H n => t 1 = .own b1 0 ∧ t 20 = .sc (.bool (((decide (0 ≤ a0.Tag)) && (decide (a0.Tag ≤ 15))) && (decide (0 < a0.Count)))) ∧ H b1 = some (.cells (c34 a0) 34) ∧ b1 < n) (fun J hJ => ?_) ?_
    · simp [-splice, f1, f19, b_b1]
      exact hJ _ _ _ ⟨by simp [f1], by simp [-splice, f1, f19, b_b1], b_b1, l_b1⟩
    clear f1 f19 b_b1 l_b1
    rintro t H n ⟨f1, f20, b_b1, l_b1⟩
    refine Stk.jo 4 (fun t H n => t 24 = .sc (.bool ((((decide (0 ≤ a0.Tag)) && (decide (a0.Tag ≤ 15))) && (decide (0 < a0.Count))) && (decide (a0.Count ≤ 6))))) (fun J3 hJ3 => ?_) ?_
    · rcases Bool.eq_false_or_eq_true (((decide (0 ≤ a0.Tag)) && (decide (a0.Tag ≤ 15))) && (decide (0 < a0.Count))) with hb3 | hb3
      · rw [hb3] at f20
        refine Stk.run 4 (fun t H n => t 24 = .sc (.bool (decide (a0.Count ≤ 6)))) (fun J hJ => ?_) ?_
        · simp [-splice, f1, f20, b_b1, ld_34_2_3]
          exact hJ _ _ _ (by simp [-splice, f1, f20, b_b1, ld_34_2_3])
        clear f1 f20 b_b1 l_b1
        rintro t H n f24
        refine Stk.on ?_
        exact Stk.ln 0 (by decide) (hJ3 _ _ _ (f24.trans (congrArg (fun q => AV.sc (.bool q)) (by rw [hb3]; rfl))))
      · rw [hb3] at f20
        refine Stk.run 4 (fun t H n => t 24 = .sc (.bool false)) (fun J hJ => ?_) ?_
        · simp [-splice, f1, f20, b_b1]
          exact hJ _ _ _ (by simp [-splice, f1, f20, b_b1])
        clear f1 f20 b_b1 l_b1
        rintro t H n f24
        refine Stk.on ?_
        exact Stk.ln 0 (by decide) (hJ3 _ _ _ (f24.trans (congrArg (fun q => AV.sc (.bool q)) (by rw [hb3]; rfl))))
    clear f1 f20 b_b1 l_b1
    rintro t H n f24
    refine Stk.run 1 (fun t H n => t 2 = .sc (.bool ((((decide (0 ≤ a0.Tag)) && (decide (a0.Tag ≤ 15))) && (decide (0 < a0.Count))) && (decide (a0.Count ≤ 6))))) (fun J hJ => ?_) ?_
    · simp [-splice, f24]
      exact hJ _ _ _ (by simp [-splice, f24])
    clear f24
    rintro t H n f2
    refine Stk.on ?_
    refine Stk.rt ?_
    have hq := Option.some.inj h; subst hq
    exact (hr _ _ _ (.sc (.bool ((((decide (0 ≤ a0.Tag)) && (decide (a0.Tag ≤ 15))) && (decide (0 < a0.Count))) && (decide (a0.Count ≤ 6))))) ([]) (by simp [f2]) (.inr (.inr (.free (rfl))))).1
  · have h := cF hb2 h
    refine Stk.sq ?_
    refine Stk.rg ?_
    refine Stk.run 2 (fun t H n => t 1 = .own b1 0 ∧ t 25 = .sc (.bool (a0.Kind == 1)) ∧ H b1 = some (.cells (c34 a0) 34) ∧ b1 < n) (fun J hJ => ?_) ?_
    · simp [-splice, f1, f4, f5, b_b1]
      exact hJ _ _ _ ⟨by simp [f1], by simp [-splice, f1, f4, f5, b_b1], b_b1, l_b1⟩
    clear f1 f4 f5 b_b1 l_b1
    rintro t H n ⟨f1, f25, b_b1, l_b1⟩
    refine Stk.on ?_
    refine Stk.cond (a0.Kind == 1) (by exact f25) (fun hb3 => ?_) (fun hb3 => ?_)
    · have h := cT hb3 h
      refine Stk.sq ?_
      refine Stk.rg ?_
      refine Stk.run 4 (fun t H n => t 1 = .own b1 0 ∧ t 30 = .sc (.bool (a0.Tag == 0)) ∧ H b1 = some (.cells (c34 a0) 34) ∧ b1 < n) (fun J hJ => ?_) ?_
      · simp [-splice, f1, f25, b_b1, ld_34_1_3]
        exact hJ _ _ _ ⟨by simp [f1], by simp [-splice, f1, f25, b_b1, ld_34_1_3], b_b1, l_b1⟩
      clear f1 f25 b_b1 l_b1
      rintro t H n ⟨f1, f30, b_b1, l_b1⟩
      refine Stk.jo 4 (fun t H n => t 1 = .own b1 0 ∧ t 34 = .sc (.bool ((a0.Tag == 0) && (decide (0 ≤ a0.Count)))) ∧ H b1 = some (.cells (c34 a0) 34) ∧ b1 < n) (fun J4 hJ4 => ?_) ?_
      · rcases Bool.eq_false_or_eq_true (a0.Tag == 0) with hb4 | hb4
        · rw [hb4] at f30
          refine Stk.run 4 (fun t H n => t 1 = .own b1 0 ∧ t 34 = .sc (.bool (decide (0 ≤ a0.Count))) ∧ H b1 = some (.cells (c34 a0) 34) ∧ b1 < n) (fun J hJ => ?_) ?_
          · simp [-splice, f1, f30, b_b1, ld_34_2_3]
            exact hJ _ _ _ ⟨by simp [f1], by simp [-splice, f1, f30, b_b1, ld_34_2_3], b_b1, l_b1⟩
          clear f1 f30 b_b1 l_b1
          rintro t H n ⟨f1, f34, b_b1, l_b1⟩
          refine Stk.on ?_
          exact Stk.ln 0 (by decide) (hJ4 _ _ _ ⟨f1, f34.trans (congrArg (fun q => AV.sc (.bool q)) (by rw [hb4]; rfl)), b_b1, l_b1⟩)
        · rw [hb4] at f30
          refine Stk.run 4 (fun t H n => t 1 = .own b1 0 ∧ t 34 = .sc (.bool false) ∧ H b1 = some (.cells (c34 a0) 34) ∧ b1 < n) (fun J hJ => ?_) ?_
          · simp [-splice, f1, f30, b_b1]
            exact hJ _ _ _ ⟨by simp [f1], by simp [-splice, f1, f30, b_b1], b_b1, l_b1⟩
          clear f1 f30 b_b1 l_b1
          rintro t H n ⟨f1, f34, b_b1, l_b1⟩
          refine Stk.on ?_
          exact Stk.ln 0 (by decide) (hJ4 _ _ _ ⟨f1, f34.trans (congrArg (fun q => AV.sc (.bool q)) (by rw [hb4]; rfl)), b_b1, l_b1⟩)
      clear f1 f30 b_b1 l_b1
      rintro t H n ⟨f1, f34, b_b1, l_b1⟩
      refine Stk.run 1 (fun t H n => t 1 = .own b1 0 ∧ t 35 = .sc (.bool ((a0.Tag == 0) && (decide (0 ≤ a0.Count)))) ∧ H b1 = some (.cells (c34 a0) 34) ∧ b1 < n) (fun J hJ => ?_) ?_
      · simp [-splice, f1, f34, b_b1]
        exact hJ _ _ _ ⟨by simp [f1], by simp [-splice, f1, f34, b_b1], b_b1, l_b1⟩
      clear f1 f34 b_b1 l_b1
      rintro t H n ⟨f1, f35, b_b1, l_b1⟩
      refine Stk.jo 4 (fun t H n => t 39 = .sc (.bool (((a0.Tag == 0) && (decide (0 ≤ a0.Count))) && (decide (a0.Count ≤ 64))))) (fun J5 hJ5 => ?_) ?_
      · rcases Bool.eq_false_or_eq_true ((a0.Tag == 0) && (decide (0 ≤ a0.Count))) with hb5 | hb5
        · rw [hb5] at f35
          refine Stk.run 4 (fun t H n => t 39 = .sc (.bool (decide (a0.Count ≤ 64)))) (fun J hJ => ?_) ?_
          · simp [-splice, f1, f35, b_b1, ld_34_2_3]
            exact hJ _ _ _ (by simp [-splice, f1, f35, b_b1, ld_34_2_3])
          clear f1 f35 b_b1 l_b1
          rintro t H n f39
          refine Stk.on ?_
          exact Stk.ln 0 (by decide) (hJ5 _ _ _ (f39.trans (congrArg (fun q => AV.sc (.bool q)) (by rw [hb5]; rfl))))
        · rw [hb5] at f35
          refine Stk.run 4 (fun t H n => t 39 = .sc (.bool false)) (fun J hJ => ?_) ?_
          · simp [-splice, f1, f35, b_b1]
            exact hJ _ _ _ (by simp [-splice, f1, f35, b_b1])
          clear f1 f35 b_b1 l_b1
          rintro t H n f39
          refine Stk.on ?_
          exact Stk.ln 0 (by decide) (hJ5 _ _ _ (f39.trans (congrArg (fun q => AV.sc (.bool q)) (by rw [hb5]; rfl))))
      clear f1 f35 b_b1 l_b1
      rintro t H n f39
      refine Stk.run 1 (fun t H n => t 2 = .sc (.bool (((a0.Tag == 0) && (decide (0 ≤ a0.Count))) && (decide (a0.Count ≤ 64))))) (fun J hJ => ?_) ?_
      · simp [-splice, f39]
        exact hJ _ _ _ (by simp [-splice, f39])
      clear f39
      rintro t H n f2
      refine Stk.on ?_
      refine Stk.rt ?_
      have hq := Option.some.inj h; subst hq
      exact (hr _ _ _ (.sc (.bool (((a0.Tag == 0) && (decide (0 ≤ a0.Count))) && (decide (a0.Count ≤ 64))))) ([]) (by simp [f2]) (.inr (.inr (.free (rfl))))).1
    · have h := cF hb3 h
      refine Stk.sk ?_
      refine Stk.bn ?_
      refine Stk.sq ?_
      refine Stk.rg ?_
      refine Stk.run 1 (fun t H n => t 2 = .sc (.bool false)) (fun J hJ => ?_) ?_
      · simp [-splice, f1, f25, b_b1]
        exact hJ _ _ _ (by simp [-splice, f1, f25, b_b1])
      clear f1 f25 b_b1 l_b1
      rintro t H n f2
      refine Stk.on ?_
      refine Stk.rt ?_
      have hq := Option.some.inj h; subst hq
      exact (hr _ _ _ (.sc (.bool false)) ([]) (by simp [f2]) (.inr (.inr (.free (rfl))))).1
theorem ok_heap_Head (F : Nat) (a0 : api_Head) (r : (Int × Bool)) (h : heap_Head F a0 = some r) : RunF Try.prog T.T 55 [.agg (c34 a0)] (.tup [.sc (.int .u64 r.1), .sc (.bool r.2)]) := by
  rw [heap_Head] at h
  refine RunF.z Try.func55 rfl rfl rfl rfl rfl (fun C hr => ?_)
  refine Stk.gen (fun t H n => t 0 = .agg (c34 a0)) (by simp) ?_
  rintro t H n f0
  refine Stk.sq ?_
  refine Stk.rg ?_
  refine Stk.om (mop_box T.t34 (cs := c34 a0) (by show partOk (t 0) = true; rw [f0]; rfl) (by show cellsOf (t 0) = _; rw [f0]; rfl)) (by simp [f0]) rfl (fun t' ht' => ?_)
  refine Stk.gen (fun t H n => ∃ b1, t 1 = .own b1 0 ∧ H b1 = some (.cells (c34 a0) 34) ∧ b1 < n) ⟨n, by simp [ht'], upd_same _ _ _, Nat.lt_succ_self _⟩ ?_
  clear f0 ht' t'
  rintro t H n ⟨b1, f1, b_b1, l_b1⟩
  refine Stk.run 2 (fun t H n => t 1 = .own b1 0 ∧ H b1 = some (.cells (c34 a0) 34) ∧ b1 < n) (fun J hJ => ?_) ?_
  · simp [-splice, f1, b_b1]
    exact hJ _ _ _ ⟨by simp [f1], b_b1, l_b1⟩
  clear f1 b_b1 l_b1
  rintro t H n ⟨f1, b_b1, l_b1⟩
  refine Stk.on ?_
  refine Stk.sq ?_
  refine Stk.sq ?_
  refine Stk.rg ?_
  refine Stk.run 1 (fun t H n => t 1 = .own b1 0 ∧ t 4 = .agg (c34 a0) ∧ H b1 = some (.cells (c34 a0) 34) ∧ b1 < n) (fun J hJ => ?_) ?_
  · simp [-splice, f1, b_b1, ld_34_0_34]
    exact hJ _ _ _ ⟨by simp [f1], by simp [-splice, f1, b_b1, ld_34_0_34], b_b1, l_b1⟩
  clear f1 b_b1 l_b1
  rintro t H n ⟨f1, f4, b_b1, l_b1⟩
  obtain ⟨x2, hx2, h⟩ := bnd h
  refine Stk.cv (g := 112) (args := [.agg (c34 a0)]) (args' := [.agg (c34 a0)]) (v := .sc (.bool x2)) [] (ok_heap_can F _ _ hx2) (by simp [f1, f4]) rfl rfl (by simp [f1, f4]) (.cons (.free (fr34 _)) (.nil)) (.inl ⟨rfl, rfl⟩) (fun t' ht' => ?_)
  refine Stk.gen (fun t H n => t 1 = .own b1 0 ∧ t 5 = .sc (.bool x2) ∧ H b1 = some (.cells (c34 a0) 34) ∧ b1 < n) ⟨by simp [ht', f1], by simp [ht'], b_b1, l_b1⟩ ?_
  clear f1 f4 b_b1 l_b1 ht' t'
  rintro t H n ⟨f1, f5, b_b1, l_b1⟩
  refine Stk.run 1 (fun t H n => t 1 = .own b1 0 ∧ t 6 = .sc (.bool (!x2)) ∧ H b1 = some (.cells (c34 a0) 34) ∧ b1 < n) (fun J hJ => ?_) ?_
  · simp [-splice, f1, f5, b_b1]
    exact hJ _ _ _ ⟨by simp [f1], by simp [-splice, f1, f5, b_b1], b_b1, l_b1⟩
  clear f1 f5 b_b1 l_b1
  rintro t H n ⟨f1, f6, b_b1, l_b1⟩
  refine Stk.on ?_
  refine Stk.cond (!x2) (by exact f6) (fun hb3 => ?_) (fun hb3 => ?_)
  · have h := cT hb3 h
    refine Stk.sq ?_
    refine Stk.rg ?_
    refine Stk.run 2 (fun t H n => t 2 = .sc (.int .u64 0) ∧ t 3 = .sc (.bool false)) (fun J hJ => ?_) ?_
    · simp [-splice, f1, f6, b_b1]
      exact hJ _ _ _ ⟨by simp [-splice, f1, f6, b_b1], by simp [-splice, f1, f6, b_b1]⟩
    clear f1 f6 b_b1 l_b1
    rintro t H n ⟨f2, f3⟩
    refine Stk.on ?_
    refine Stk.rt ?_
    have hq := Option.some.inj h; subst hq
    exact (hr _ _ _ (.tup [.sc (.int .u64 0), .sc (.bool false)]) ([]) (by simp [f2, f3]) (.inr (.inr (.tup (.cons (.free (rfl)) (.cons (.free (rfl)) (.nil))))))).1
  · have h := cF hb3 h
    refine Stk.sk ?_
    refine Stk.sq ?_
    refine Stk.rg ?_
    refine Stk.run 13 (fun t H n => t 2 = .sc (.int .u64 (IntKind.u64.wrap (borI .i64 (borI .i64 (IntKind.i64.wrap (a0.Kind * 65536)) (IntKind.i64.wrap (a0.Tag * 256))) a0.Count))) ∧ t 3 = .sc (.bool true)) (fun J hJ => ?_) ?_
    · simp [-splice, f1, f6, b_b1, ld_34_0_3, ld_34_1_3, ld_34_2_3]
      exact hJ _ _ _ ⟨by simp [-splice, f1, f6, b_b1, ld_34_0_3, ld_34_1_3, ld_34_2_3], by simp [-splice, f1, f6, b_b1, ld_34_0_3, ld_34_1_3, ld_34_2_3]⟩
    clear f1 f6 b_b1 l_b1
    rintro t H n ⟨f2, f3⟩
    refine Stk.on ?_
    refine Stk.rt ?_
    have hq := Option.some.inj h; subst hq
    exact (hr _ _ _ (.tup [.sc (.int .u64 (IntKind.u64.wrap (borI .i64 (borI .i64 (IntKind.i64.wrap (a0.Kind * 65536)) (IntKind.i64.wrap (a0.Tag * 256))) a0.Count))), .sc (.bool true)]) ([]) (by simp [f2, f3]) (.inr (.inr (.tup (.cons (.free (rfl)) (.cons (.free (rfl)) (.nil))))))).1
end Go.Proofs.Ytfflojbgikfbmaa.M
