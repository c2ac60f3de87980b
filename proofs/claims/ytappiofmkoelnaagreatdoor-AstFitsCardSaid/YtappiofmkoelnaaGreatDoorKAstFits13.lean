/-
  For AstFits: texts of the road to it, 14 of 16.
-/
import Derived.Test.YtappiofmkoelnaaGreatDoorKAstFits12
section
namespace Go.Proofs.YtappiofmkoelnaaGreatDoor.M
open Go.Proofs.YtappiofmkoelnaaGreatDoorW.Ah Go.Proofs.YtappiofmkoelnaaGreatDoor
set_option linter.unusedVariables false
set_option linter.unusedSimpArgs false
set_option maxRecDepth 8000
attribute [local simp] T.t2 T.t3 T.t4 T.t5 T.t9 T.t21 T.t24 T.t26 T.t185 List.range List.range.loop
attribute [-simp] appendAV fillAV
theorem ok_R02_tail (F : Nat) (a0 : ByteArray) (a1 : Int) (a2 : Int) (r : (Int × Bool)) (h : R02_tail F a0 a1 a2 = some r) : RunF Tryz.prog T.T 173 [.sc (.string a0), .sc (.int .i64 a1), .sc (.int .i64 a2)] (.tup [.sc (.int .i32 r.1), .sc (.bool r.2)]) := by
  rw [R02_tail] at h
  refine RunF.z Tryz.func173 rfl rfl rfl rfl rfl (fun C hr => ?_)
  refine Stk.gen (fun t H n => t 0 = .sc (.string a0) ∧ t 1 = .sc (.int .i64 a1) ∧ t 2 = .sc (.int .i64 a2)) ⟨by simp, by simp, by simp⟩ ?_
  rintro t H n ⟨f0, f1, f2⟩
  refine evY_sound (f := 16) ?_; simp [-splice, f0, f1, f2]
  refine Stk.gen (fun t H n => t 0 = .sc (.string a0) ∧ t 1 = .sc (.int .i64 a1) ∧ t 2 = .sc (.int .i64 a2) ∧ t 8 = .sc (.int .i32 0) ∧ t 9 = .sc (.int .i64 a1)) (by and_intros <;> first | assumption | simp [-splice, f0, f1, f2]) ?_
  clear f0 f1 f2
  rintro t H n ⟨f0, f1, f2, f8, f9⟩
  refine Stk.lo (fun μ t H n => ∃ v1 : Int, ∃ v2 : Int, R02_tail_L0 F a0 a1 a2 μ v1 v2 = some r ∧ t 0 = .sc (.string a0) ∧ t 1 = .sc (.int .i64 a1) ∧ t 2 = .sc (.int .i64 a2) ∧ t 8 = .sc (.int .i32 v1) ∧ t 9 = .sc (.int .i64 v2)) F ⟨0, a1, h, f0, f1, f2, f8, f9⟩ ?_
  clear h f0 f1 f2 f8 f9
  rintro J1 hJ1 μ t H n ⟨v1, v2, h, f0, f1, f2, f8, f9⟩
  cases μ with
  | zero => exact absurd h (by simp [R02_tail_L0])
  | succ μ =>
  rw [R02_tail_L0] at h
  refine evY_sound (f := 9) ?_; simp [-splice, f0, f1, f2, f8, f9]
  refine Stk.cond (decide (v2 < (IntKind.i64.wrap (a1 + a2)))) (by simp [-splice, f0, f1, f2, f8, f9]) (fun hb5 => ?_) (fun hb5 => ?_)
  ·have h := cT hb5 h
   refine evY_sound (f := 11) ?_; simp [-splice, f0, f1, f2, f8, f9]
   refine Stk.gen (fun t H n => t 0 = .sc (.string a0) ∧ t 1 = .sc (.int .i64 a1) ∧ t 2 = .sc (.int .i64 a2) ∧ t 8 = .sc (.int .i32 v1) ∧ t 9 = .sc (.int .i64 v2) ∧ t 22 = .sc (.bool (decide ((a0.size : Int) ≤ v2)))) (by and_intros <;> first | assumption | simp [-splice, f0, f1, f2, f8, f9]) ?_
   clear f0 f1 f2 f8 f9
   rintro t H n ⟨f0, f1, f2, f8, f9, f22⟩
   obtain ⟨K2, hK2, h⟩ := jnd h
   refine Stk.jo 5 (fun t H n => ∃ v6 : Bool, K2 v6 = some r ∧ t 0 = .sc (.string a0) ∧ t 1 = .sc (.int .i64 a1) ∧ t 2 = .sc (.int .i64 a2) ∧ t 8 = .sc (.int .i32 v1) ∧ t 9 = .sc (.int .i64 v2) ∧ t 27 = .sc (.bool v6)) (fun J2 hJ2 => ?_) ?_
   · rcases Bool.eq_false_or_eq_true (decide ((a0.size : Int) ≤ v2)) with hb2 | hb2
     · rw [hb2] at f22
       replace h := cT hb2 h
       refine evY_sound (f := 6) ?_; simp [-splice, f0, f1, f2, f8, f9, f22]
       exact Stk.ln 0 (by decide) (hJ2 _ _ _ ⟨true, h, by and_intros <;> first | assumption | simp [-splice, f0, f1, f2, f8, f9, f22]⟩)
     · rw [hb2] at f22
       replace h := cF hb2 h
       refine evY_sound (f := 2) ?_; simp [-splice, f0, f1, f2, f8, f9, f22]
       refine Stk.gen (fun t H n => t 0 = .sc (.string a0) ∧ t 1 = .sc (.int .i64 a1) ∧ t 2 = .sc (.int .i64 a2) ∧ t 8 = .sc (.int .i32 v1) ∧ t 9 = .sc (.int .i64 v2) ∧ t 22 = .sc (.bool false) ∧ t 23 = .sc (.string a0) ∧ t 24 = .sc (.int .i64 v2)) (by and_intros <;> first | assumption | simp [-splice, f0, f1, f2, f8, f9, f22]) ?_
       clear f0 f1 f2 f8 f9 f22
       rintro t H n ⟨f0, f1, f2, f8, f9, f22, f23, f24⟩
       obtain ⟨x7, hx7, h⟩ := bnd h
       refine Stk.ov (vop_sidx T.t9 rfl f23 f24 hx7) (by simp [f0, f1, f2, f8, f9, f22, f23, f24]) rfl (fun t' ht' => ?_)
       refine Stk.gen (fun t H n => t 0 = .sc (.string a0) ∧ t 1 = .sc (.int .i64 a1) ∧ t 2 = .sc (.int .i64 a2) ∧ t 8 = .sc (.int .i32 v1) ∧ t 9 = .sc (.int .i64 v2) ∧ t 22 = .sc (.bool false) ∧ t 25 = .sc (.int .u8 x7)) ⟨by simp [ht', f0], by simp [ht', f1], by simp [ht', f2], by simp [ht', f8], by simp [ht', f9], by simp [ht', f22], by simp [ht']⟩ ?_
       clear f0 f1 f2 f8 f9 f22 f23 f24 ht' t'
       rintro t H n ⟨f0, f1, f2, f8, f9, f22, f25⟩
       refine evY_sound (f := 3) ?_; simp [-splice, f0, f1, f2, f8, f9, f22, f25]
       exact Stk.ln 0 (by decide) (hJ2 _ _ _ ⟨(decide (x7 < 128)), h, by and_intros <;> first | assumption | simp [-splice, f0, f1, f2, f8, f9, f22, f25]⟩)
   clear h f0 f1 f2 f8 f9 f22
   rintro t H n ⟨v6, h, f0, f1, f2, f8, f9, f27⟩
   subst hK2
   refine evY_sound (f := 1) ?_; simp [-splice, f0, f1, f2, f8, f9, f27]
   refine Stk.gen (fun t H n => t 0 = .sc (.string a0) ∧ t 1 = .sc (.int .i64 a1) ∧ t 2 = .sc (.int .i64 a2) ∧ t 8 = .sc (.int .i32 v1) ∧ t 9 = .sc (.int .i64 v2) ∧ t 28 = .sc (.bool v6)) (by and_intros <;> first | assumption | simp [-splice, f0, f1, f2, f8, f9, f27]) ?_
   clear f0 f1 f2 f8 f9 f27
   rintro t H n ⟨f0, f1, f2, f8, f9, f28⟩
   obtain ⟨K3, hK3, h⟩ := jnd h
   refine Stk.jo 5 (fun t H n => ∃ v8 : Bool, K3 v8 = some r ∧ t 0 = .sc (.string a0) ∧ t 1 = .sc (.int .i64 a1) ∧ t 2 = .sc (.int .i64 a2) ∧ t 8 = .sc (.int .i32 v1) ∧ t 9 = .sc (.int .i64 v2) ∧ t 33 = .sc (.bool v8)) (fun J3 hJ3 => ?_) ?_
   · rcases Bool.eq_false_or_eq_true v6 with hb3 | hb3
     · rw [hb3] at f28
       replace h := cT hb3 h
       refine evY_sound (f := 6) ?_; simp [-splice, f0, f1, f2, f8, f9, f28]
       exact Stk.ln 0 (by decide) (hJ3 _ _ _ ⟨true, h, by and_intros <;> first | assumption | simp [-splice, f0, f1, f2, f8, f9, f28]⟩)
     · rw [hb3] at f28
       replace h := cF hb3 h
       refine evY_sound (f := 2) ?_; simp [-splice, f0, f1, f2, f8, f9, f28]
       refine Stk.gen (fun t H n => t 0 = .sc (.string a0) ∧ t 1 = .sc (.int .i64 a1) ∧ t 2 = .sc (.int .i64 a2) ∧ t 8 = .sc (.int .i32 v1) ∧ t 9 = .sc (.int .i64 v2) ∧ t 28 = .sc (.bool false) ∧ t 29 = .sc (.string a0) ∧ t 30 = .sc (.int .i64 v2)) (by and_intros <;> first | assumption | simp [-splice, f0, f1, f2, f8, f9, f28]) ?_
       clear f0 f1 f2 f8 f9 f28
       rintro t H n ⟨f0, f1, f2, f8, f9, f28, f29, f30⟩
       obtain ⟨x9, hx9, h⟩ := bnd h
       refine Stk.ov (vop_sidx T.t9 rfl f29 f30 hx9) (by simp [f0, f1, f2, f8, f9, f28, f29, f30]) rfl (fun t' ht' => ?_)
       refine Stk.gen (fun t H n => t 0 = .sc (.string a0) ∧ t 1 = .sc (.int .i64 a1) ∧ t 2 = .sc (.int .i64 a2) ∧ t 8 = .sc (.int .i32 v1) ∧ t 9 = .sc (.int .i64 v2) ∧ t 28 = .sc (.bool false) ∧ t 31 = .sc (.int .u8 x9)) ⟨by simp [ht', f0], by simp [ht', f1], by simp [ht', f2], by simp [ht', f8], by simp [ht', f9], by simp [ht', f28], by simp [ht']⟩ ?_
       clear f0 f1 f2 f8 f9 f28 f29 f30 ht' t'
       rintro t H n ⟨f0, f1, f2, f8, f9, f28, f31⟩
       refine evY_sound (f := 3) ?_; simp [-splice, f0, f1, f2, f8, f9, f28, f31]
       exact Stk.ln 0 (by decide) (hJ3 _ _ _ ⟨(decide (191 < x9)), h, by and_intros <;> first | assumption | simp [-splice, f0, f1, f2, f8, f9, f28, f31]⟩)
   clear h f0 f1 f2 f8 f9 f28
   rintro t H n ⟨v8, h, f0, f1, f2, f8, f9, f33⟩
   subst hK3
   refine evY_sound (f := 1) ?_; simp [-splice, f0, f1, f2, f8, f9, f33]
   refine Stk.cond v8 (by simp [-splice, f0, f1, f2, f8, f9, f33]) (fun hb10 => ?_) (fun hb10 => ?_)
   ·have h := cT hb10 h
    refine evY_sound (f := 6) ?_; simp [-splice, f0, f1, f2, f8, f9, f33]
    have hq := Option.some.inj h; subst hq
    exact (hr _ _ _ (.tup [.sc (.int .i32 0), .sc (.bool false)]) ([]) (by simp [-splice, f0, f1, f2, f8, f9, f33]) (.inr (.inr (.tup (.cons (.free (rfl)) (.cons (.free (rfl)) (.nil))))))).1
   ·have h := cF hb10 h
    refine evY_sound (f := 6) ?_; simp [-splice, f0, f1, f2, f8, f9, f33]
    refine Stk.gen (fun t H n => t 0 = .sc (.string a0) ∧ t 1 = .sc (.int .i64 a1) ∧ t 2 = .sc (.int .i64 a2) ∧ t 9 = .sc (.int .i64 v2) ∧ t 35 = .sc (.int .i32 (IntKind.i32.wrap (v1 * 64))) ∧ t 36 = .sc (.string a0) ∧ t 37 = .sc (.int .i64 v2)) (by and_intros <;> first | assumption | simp [-splice, f0, f1, f2, f8, f9, f33]) ?_
    clear f0 f1 f2 f8 f9 f33
    rintro t H n ⟨f0, f1, f2, f9, f35, f36, f37⟩
    obtain ⟨x11, hx11, h⟩ := bnd h
    refine Stk.ov (vop_sidx T.t9 rfl f36 f37 hx11) (by simp [f0, f1, f2, f9, f35, f36, f37]) rfl (fun t' ht' => ?_)
    refine Stk.gen (fun t H n => t 0 = .sc (.string a0) ∧ t 1 = .sc (.int .i64 a1) ∧ t 2 = .sc (.int .i64 a2) ∧ t 9 = .sc (.int .i64 v2) ∧ t 35 = .sc (.int .i32 (IntKind.i32.wrap (v1 * 64))) ∧ t 38 = .sc (.int .u8 x11)) ⟨by simp [ht', f0], by simp [ht', f1], by simp [ht', f2], by simp [ht', f9], by simp [ht', f35], by simp [ht']⟩ ?_
    clear f0 f1 f2 f9 f35 f36 f37 ht' t'
    rintro t H n ⟨f0, f1, f2, f9, f35, f38⟩
    refine evY_sound (f := 11) ?_; simp [-splice, f0, f1, f2, f9, f35, f38]
    exact Stk.ln μ (Nat.lt_succ_self _) (hJ1 _ _ _ _ ⟨(IntKind.i32.wrap ((IntKind.i32.wrap (v1 * 64)) + (IntKind.i32.wrap (IntKind.u8.wrap (x11 - 128))))), (IntKind.i64.wrap (v2 + 1)), h, by and_intros <;> first | assumption | simp [-splice, f0, f1, f2, f9, f35, f38]⟩)
  ·have h := cF hb5 h
   refine Stk.ex rfl ?_
   refine evY_sound (f := 7) ?_; simp [-splice, f0, f1, f2, f8, f9]
   have hq := Option.some.inj h; subst hq
   exact (hr _ _ _ (.tup [.sc (.int .i32 v1), .sc (.bool true)]) ([]) (by simp [-splice, f0, f1, f2, f8, f9]) (.inr (.inr (.tup (.cons (.free (rfl)) (.cons (.free (rfl)) (.nil))))))).1
theorem ok_R02_scalar (F : Nat) (a0 : Int) (r : Bool) (h : R02_scalar F a0 = some r) : RunF Tryz.prog T.T 174 [.sc (.int .i32 a0)] (.sc (.bool r)) := by
  rw [R02_scalar] at h
  refine RunF.z Tryz.func174 rfl rfl rfl rfl rfl (fun C hr => ?_)
  refine Stk.gen (fun t H n => t 0 = .sc (.int .i32 a0)) (by simp) ?_
  rintro t H n f0
  refine evY_sound (f := 9) ?_; simp [-splice, f0]
  refine Stk.gd 3 5 8 (fun z => .sc (.bool (z && (decide (a0 ≤ 1114111))))) (w := decide (0 ≤ a0)) (by simp [-splice, f0]) (by simp [-splice, f0]) (by simp [-splice, f0]) ?_; simp [-splice, f0]
  refine evY_sound (f := 1) ?_; simp [-splice, f0]
  refine Stk.gen (fun t H n => t 0 = .sc (.int .i32 a0) ∧ t 9 = .sc (.bool ((decide (0 ≤ a0)) && (decide (a0 ≤ 1114111))))) (by and_intros <;> first | assumption | simp [-splice, f0]) ?_
  clear f0
  rintro t H n ⟨f0, f9⟩
  refine Stk.jo 7 (fun t H n => t 16 = .sc (.bool (((decide (0 ≤ a0)) && (decide (a0 ≤ 1114111))) && ((decide (a0 < 55296)) || (decide (57343 < a0)))))) (fun J1 hJ1 => ?_) ?_
  · rcases Bool.eq_false_or_eq_true ((decide (0 ≤ a0)) && (decide (a0 ≤ 1114111))) with hb1 | hb1
    · rw [hb1] at f9
      refine evY_sound (f := 3) ?_; simp [-splice, f0, f9]
      refine Stk.gen (fun t H n => t 0 = .sc (.int .i32 a0) ∧ t 9 = .sc (.bool true) ∧ t 12 = .sc (.bool (decide (a0 < 55296)))) (by and_intros <;> first | assumption | simp [-splice, f0, f9]) ?_
      clear f0 f9
      rintro t H n ⟨f0, f9, f12⟩
      refine Stk.jo 3 (fun t H n => t 9 = .sc (.bool true) ∧ t 15 = .sc (.bool ((decide (a0 < 55296)) || (decide (57343 < a0))))) (fun J2 hJ2 => ?_) ?_
      · rcases Bool.eq_false_or_eq_true (decide (a0 < 55296)) with hb2 | hb2
        · rw [hb2] at f12
          refine evY_sound (f := 4) ?_; simp [-splice, f0, f9, f12]
          refine Stk.gen (fun t H n => t 9 = .sc (.bool true) ∧ t 15 = .sc (.bool true)) (by and_intros <;> first | assumption | simp [-splice, f0, f9, f12]) ?_
          clear f0 f9 f12
          rintro t H n ⟨f9, f15⟩
          exact Stk.ln 0 (by decide) (hJ2 _ _ _ ⟨f9, f15.trans (congrArg (fun q => AV.sc (.bool q)) (by rw [hb2]; rfl))⟩)
        · rw [hb2] at f12
          refine evY_sound (f := 4) ?_; simp [-splice, f0, f9, f12]
          refine Stk.gen (fun t H n => t 9 = .sc (.bool true) ∧ t 15 = .sc (.bool (decide (57343 < a0)))) (by and_intros <;> first | assumption | simp [-splice, f0, f9, f12]) ?_
          clear f0 f9 f12
          rintro t H n ⟨f9, f15⟩
          exact Stk.ln 0 (by decide) (hJ2 _ _ _ ⟨f9, f15.trans (congrArg (fun q => AV.sc (.bool q)) (by rw [hb2]; rfl))⟩)
      clear f0 f9 f12
      rintro t H n ⟨f9, f15⟩
      refine evY_sound (f := 2) ?_; simp [-splice, f9, f15]
      refine Stk.gen (fun t H n => t 16 = .sc (.bool ((decide (a0 < 55296)) || (decide (57343 < a0))))) (by simp [-splice, f9, f15]) ?_
      clear f9 f15
      rintro t H n f16
      exact Stk.ln 0 (by decide) (hJ1 _ _ _ (f16.trans (congrArg (fun q => AV.sc (.bool q)) (by rw [hb1]; rfl))))
    · rw [hb1] at f9
      refine evY_sound (f := 8) ?_; simp [-splice, f0, f9]
      refine Stk.gen (fun t H n => t 16 = .sc (.bool false)) (by simp [-splice, f0, f9]) ?_
      clear f0 f9
      rintro t H n f16
      exact Stk.ln 0 (by decide) (hJ1 _ _ _ (f16.trans (congrArg (fun q => AV.sc (.bool q)) (by rw [hb1]; rfl))))
  clear f0 f9
  rintro t H n f16
  refine evY_sound (f := 3) ?_; simp [-splice, f16]
  have hq := Option.some.inj h; subst hq
  exact (hr _ _ _ (.sc (.bool (((decide (0 ≤ a0)) && (decide (a0 ≤ 1114111))) && ((decide (a0 < 55296)) || (decide (57343 < a0)))))) ([]) (by simp [-splice, f16]) (.inr (.inr (.free (rfl))))).1
theorem ok_R02_One (F : Nat) (a0 : ByteArray) (a1 : Int) (r : (Int × Int)) (h : R02_One F a0 a1 = some r) : RunF Tryz.prog T.T 115 [.sc (.string a0), .sc (.int .i64 a1)] (.tup [.sc (.int .i32 r.1), .sc (.int .i64 r.2)]) := by
  rw [R02_One] at h
  refine RunF.z Tryz.func115 rfl rfl rfl rfl rfl (fun C hr => ?_)
  refine Stk.gen (fun t H n => t 0 = .sc (.string a0) ∧ t 1 = .sc (.int .i64 a1)) ⟨by simp, by simp⟩ ?_
  rintro t H n ⟨f0, f1⟩
  refine evY_sound (f := 9) ?_; simp [-splice, f0, f1]
  refine Stk.gen (fun t H n => t 0 = .sc (.string a0) ∧ t 1 = .sc (.int .i64 a1) ∧ t 12 = .sc (.string a0) ∧ t 13 = .sc (.int .i64 a1)) (by and_intros <;> first | assumption | simp [-splice, f0, f1]) ?_
  clear f0 f1
  rintro t H n ⟨f0, f1, f12, f13⟩
  obtain ⟨x1, hx1, h⟩ := bnd h
  refine Stk.ov (vop_sidx T.t9 rfl f12 f13 hx1) (by simp [f0, f1, f12, f13]) rfl (fun t' ht' => ?_)
  refine Stk.gen (fun t H n => t 0 = .sc (.string a0) ∧ t 1 = .sc (.int .i64 a1) ∧ t 14 = .sc (.int .u8 x1)) ⟨by simp [ht', f0], by simp [ht', f1], by simp [ht']⟩ ?_
  clear f0 f1 f12 f13 ht' t'
  rintro t H n ⟨f0, f1, f14⟩
  refine evY_sound (f := 24) ?_; simp [-splice, f0, f1, f14]
  refine Stk.cond (decide (x1 < 128)) (by simp [-splice, f0, f1, f14]) (fun hb2 => ?_) (fun hb2 => ?_)
  ·have h := cT hb2 h
   refine evY_sound (f := 7) ?_; simp [-splice, f0, f1, f14]
   have hq := Option.some.inj h; subst hq
   exact (hr _ _ _ (.tup [.sc (.int .i32 (IntKind.i32.wrap x1)), .sc (.int .i64 1)]) ([]) (by simp [-splice, f0, f1, f14]) (.inr (.inr (.tup (.cons (.free (rfl)) (.cons (.free (rfl)) (.nil))))))).1
  ·have h := cF hb2 h
   refine evY_sound (f := 5) ?_; simp [-splice, f0, f1, f14]
   refine Stk.gd 3 24 27 (fun z => .sc (.bool (z && (decide (x1 < 224))))) (w := decide (192 ≤ x1)) (by simp [-splice, f0, f1, f14]) (by simp [-splice, f0, f1, f14]) (by simp [-splice, f0, f1, f14]) ?_; simp [-splice, f0, f1, f14]
   refine evY_sound (f := 2) ?_; simp [-splice, f0, f1, f14]
   obtain ⟨K1, hK1, h⟩ := jnd h
   refine Stk.jn (fun t H n => ∃ v3 : Int, ∃ v4 : Int, ∃ v5 : Int, K1 v3 v4 v5 = some r ∧ t 0 = .sc (.string a0) ∧ t 1 = .sc (.int .i64 a1) ∧ t 7 = .sc (.int .i64 v3) ∧ t 8 = .sc (.int .i32 v4) ∧ t 9 = .sc (.int .i32 v5)) trivial (fun J1 hJ1 => ?_) ?_
   · skip
     refine Stk.cond ((decide (192 ≤ x1)) && (decide (x1 < 224))) (by simp [-splice, f0, f1, f14]) (fun hb6 => ?_) (fun hb6 => ?_)
     ·have h := cT hb6 h
      refine evY_sound (f := 13) ?_; simp [-splice, f0, f1, f14]
      exact Stk.ln 0 (by decide) (hJ1 _ _ _ ⟨1, (IntKind.i32.wrap ((IntKind.i32.wrap x1) - 192)), 128, h, by and_intros <;> first | assumption | simp [-splice, f0, f1, f14]⟩)
     ·have h := cF hb6 h
      refine evY_sound (f := 5) ?_; simp [-splice, f0, f1, f14]
      refine Stk.gd 3 33 36 (fun z => .sc (.bool (z && (decide (x1 < 240))))) (w := decide (224 ≤ x1)) (by simp [-splice, f0, f1, f14]) (by simp [-splice, f0, f1, f14]) (by simp [-splice, f0, f1, f14]) ?_; simp [-splice, f0, f1, f14]
      refine evY_sound (f := 2) ?_; simp [-splice, f0, f1, f14]
      refine Stk.cond ((decide (224 ≤ x1)) && (decide (x1 < 240))) (by simp [-splice, f0, f1, f14]) (fun hb7 => ?_) (fun hb7 => ?_)
      ·have h := cT hb7 h
       refine evY_sound (f := 13) ?_; simp [-splice, f0, f1, f14]
       exact Stk.ln 0 (by decide) (hJ1 _ _ _ ⟨2, (IntKind.i32.wrap ((IntKind.i32.wrap x1) - 224)), 2048, h, by and_intros <;> first | assumption | simp [-splice, f0, f1, f14]⟩)
      ·have h := cF hb7 h
       refine evY_sound (f := 5) ?_; simp [-splice, f0, f1, f14]
       refine Stk.gd 3 42 45 (fun z => .sc (.bool (z && (decide (x1 < 248))))) (w := decide (240 ≤ x1)) (by simp [-splice, f0, f1, f14]) (by simp [-splice, f0, f1, f14]) (by simp [-splice, f0, f1, f14]) ?_; simp [-splice, f0, f1, f14]
       refine evY_sound (f := 2) ?_; simp [-splice, f0, f1, f14]
       refine Stk.cond ((decide (240 ≤ x1)) && (decide (x1 < 248))) (by simp [-splice, f0, f1, f14]) (fun hb8 => ?_) (fun hb8 => ?_)
       ·have h := cT hb8 h
        refine evY_sound (f := 13) ?_; simp [-splice, f0, f1, f14]
        exact Stk.ln 0 (by decide) (hJ1 _ _ _ ⟨3, (IntKind.i32.wrap ((IntKind.i32.wrap x1) - 240)), 65536, h, by and_intros <;> first | assumption | simp [-splice, f0, f1, f14]⟩)
       ·have h := cF hb8 h
        refine evY_sound (f := 6) ?_; simp [-splice, f0, f1, f14]
        have hq := Option.some.inj h; subst hq
        exact (hr _ _ _ (.tup [.sc (.int .i32 0), .sc (.int .i64 0)]) ([]) (by simp [-splice, f0, f1, f14]) (.inr (.inr (.tup (.cons (.free (rfl)) (.cons (.free (rfl)) (.nil))))))).1
   clear h f0 f1 f14
   rintro t H n ⟨v3, v4, v5, h, f0, f1, f7, f8, f9⟩
   subst hK1
   obtain ⟨x9, hx9, h⟩ := bnd h
   refine evY_sound (f := 7) ?_; simp [-splice, f0, f1, f7, f8, f9]
   refine Stk.cv (g := 173) (args := [.sc (.string a0), .sc (.int .i64 (IntKind.i64.wrap (a1 + 1))), .sc (.int .i64 v3)]) (args' := [.sc (.string a0), .sc (.int .i64 (IntKind.i64.wrap (a1 + 1))), .sc (.int .i64 v3)]) (v := .tup [.sc (.int .i32 x9.1), .sc (.bool x9.2)]) [] (ok_R02_tail F _ _ _ _ hx9) (by simp [-splice, f0, f1, f7, f8, f9]) rfl rfl (by simp [-splice, f0, f1, f7, f8, f9]) (.cons (.free (rfl)) (.cons (.free (rfl)) (.cons (.free (rfl)) (.nil)))) (.inl ⟨rfl, by simp [free, freeL]⟩) (fun t' ht' => ?_)
   subst ht'
   obtain ⟨x10, hx10, h⟩ := bnd h
   obtain ⟨nx10, ex10⟩ := shlM_ok hx10
   refine evY_sound (f := 23) ?_; simp [-splice, f0, f1, f7, f8, f9, nx10, ex10]
   refine Stk.gd 4 65 69 (fun z => .sc (.bool (z || (decide ((IntKind.i32.wrap (x10 + x9.1)) < v5))))) (w := (!x9.2)) (by simp [-splice, f0, f1, f7, f8, f9, nx10, ex10]) (by simp [-splice, f0, f1, f7, f8, f9, nx10, ex10]) (by simp [-splice, f0, f1, f7, f8, f9, nx10, ex10]) ?_; simp [-splice, f0, f1, f7, f8, f9, nx10, ex10]
   refine evY_sound (f := 1) ?_; simp [-splice, f0, f1, f7, f8, f9, nx10, ex10]
   refine Stk.gen (fun t H n => t 7 = .sc (.int .i64 v3) ∧ t 8 = .sc (.int .i32 (IntKind.i32.wrap (x10 + x9.1))) ∧ t 70 = .sc (.bool ((!x9.2) || (decide ((IntKind.i32.wrap (x10 + x9.1)) < v5))))) (by and_intros <;> first | assumption | simp [-splice, f0, f1, f7, f8, f9, nx10, ex10]) ?_
   clear f0 f1 f7 f8 f9
   rintro t H n ⟨f7, f8, f70⟩
   obtain ⟨K2, hK2, h⟩ := jnd h
   refine Stk.jo 4 (fun t H n => ∃ v11 : Bool, K2 v11 = some r ∧ t 7 = .sc (.int .i64 v3) ∧ t 8 = .sc (.int .i32 (IntKind.i32.wrap (x10 + x9.1))) ∧ t 74 = .sc (.bool v11)) (fun J2 hJ2 => ?_) ?_
   · rcases Bool.eq_false_or_eq_true ((!x9.2) || (decide ((IntKind.i32.wrap (x10 + x9.1)) < v5))) with hb2 | hb2
     · rw [hb2] at f70
       replace h := cT hb2 h
       refine evY_sound (f := 5) ?_; simp [-splice, f7, f8, f70]
       exact Stk.ln 0 (by decide) (hJ2 _ _ _ ⟨true, h, by and_intros <;> first | assumption | simp [-splice, f7, f8, f70]⟩)
     · rw [hb2] at f70
       replace h := cF hb2 h
       obtain ⟨x12, hx12, h⟩ := bnd h
       refine evY_sound (f := 1) ?_; simp [-splice, f7, f8, f70]
       refine Stk.cv (g := 174) (args := [.sc (.int .i32 (IntKind.i32.wrap (x10 + x9.1)))]) (args' := [.sc (.int .i32 (IntKind.i32.wrap (x10 + x9.1)))]) (v := .sc (.bool x12)) [] (ok_R02_scalar F _ _ hx12) (by simp [-splice, f7, f8, f70]) rfl rfl (by simp [-splice, f7, f8, f70]) (.cons (.free (rfl)) (.nil)) (.inl ⟨rfl, rfl⟩) (fun t' ht' => ?_)
       subst ht'
       refine evY_sound (f := 3) ?_; simp [-splice, f7, f8, f70]
       exact Stk.ln 0 (by decide) (hJ2 _ _ _ ⟨(!x12), h, by and_intros <;> first | assumption | simp [-splice, f7, f8, f70]⟩)
   clear h f7 f8 f70
   rintro t H n ⟨v11, h, f7, f8, f74⟩
   subst hK2
   refine evY_sound (f := 1) ?_; simp [-splice, f7, f8, f74]
   refine Stk.cond v11 (by simp [-splice, f7, f8, f74]) (fun hb13 => ?_) (fun hb13 => ?_)
   ·have h := cT hb13 h
    refine evY_sound (f := 6) ?_; simp [-splice, f7, f8, f74]
    have hq := Option.some.inj h; subst hq
    exact (hr _ _ _ (.tup [.sc (.int .i32 0), .sc (.int .i64 0)]) ([]) (by simp [-splice, f7, f8, f74]) (.inr (.inr (.tup (.cons (.free (rfl)) (.cons (.free (rfl)) (.nil))))))).1
   ·have h := cF hb13 h
    refine evY_sound (f := 10) ?_; simp [-splice, f7, f8, f74]
    have hq := Option.some.inj h; subst hq
    exact (hr _ _ _ (.tup [.sc (.int .i32 (IntKind.i32.wrap (x10 + x9.1))), .sc (.int .i64 (IntKind.i64.wrap (v3 + 1)))]) ([]) (by simp [-splice, f7, f8, f74]) (.inr (.inr (.tup (.cons (.free (rfl)) (.cons (.free (rfl)) (.nil))))))).1
theorem ok_R02_Low (F : Nat) (a0 : Int) (r : Bool) (h : R02_Low F a0 = some r) : RunF Tryz.prog T.T 118 [.sc (.int .i32 a0)] (.sc (.bool r)) := by
  rw [R02_Low] at h
  refine RunF.z Tryz.func118 rfl rfl rfl rfl rfl (fun C hr => ?_)
  refine Stk.gen (fun t H n => t 0 = .sc (.int .i32 a0)) (by simp) ?_
  rintro t H n f0
  refine evY_sound (f := 9) ?_; simp [-splice, f0]
  refine Stk.gd 3 5 8 (fun z => .sc (.bool (z && (decide (a0 ≤ 122))))) (w := decide (97 ≤ a0)) (by simp [-splice, f0]) (by simp [-splice, f0]) (by simp [-splice, f0]) ?_; simp [-splice, f0]
  refine evY_sound (f := 1) ?_; simp [-splice, f0]
  refine Stk.gen (fun t H n => t 0 = .sc (.int .i32 a0) ∧ t 9 = .sc (.bool ((decide (97 ≤ a0)) && (decide (a0 ≤ 122))))) (by and_intros <;> first | assumption | simp [-splice, f0]) ?_
  clear f0
  rintro t H n ⟨f0, f9⟩
  obtain ⟨K1, hK1, h⟩ := jnd h
  refine Stk.jo 7 (fun t H n => ∃ v1 : Bool, K1 v1 = some r ∧ t 16 = .sc (.bool v1)) (fun J1 hJ1 => ?_) ?_
  · rcases Bool.eq_false_or_eq_true ((decide (97 ≤ a0)) && (decide (a0 ≤ 122))) with hb1 | hb1
    · rw [hb1] at f9
      replace h := cT hb1 h
      refine evY_sound (f := 8) ?_; simp [-splice, f0, f9]
      exact Stk.ln 0 (by decide) (hJ1 _ _ _ ⟨true, h, by simp [-splice, f0, f9]⟩)
    · rw [hb1] at f9
      replace h := cF hb1 h
      refine evY_sound (f := 3) ?_; simp [-splice, f0, f9]
      refine Stk.gen (fun t H n => t 0 = .sc (.int .i32 a0) ∧ t 9 = .sc (.bool false) ∧ t 12 = .sc (.bool (decide (128 ≤ a0)))) (by and_intros <;> first | assumption | simp [-splice, f0, f9]) ?_
      clear f0 f9
      rintro t H n ⟨f0, f9, f12⟩
      obtain ⟨K2, hK2, h⟩ := jnd h
      refine Stk.jo 3 (fun t H n => ∃ v2 : Bool, K2 v2 = some r ∧ t 9 = .sc (.bool false) ∧ t 15 = .sc (.bool v2)) (fun J2 hJ2 => ?_) ?_
      · rcases Bool.eq_false_or_eq_true (decide (128 ≤ a0)) with hb2 | hb2
        · rw [hb2] at f12
          replace h := cT hb2 h
          obtain ⟨x3, hx3, h⟩ := bnd h
          refine evY_sound (f := 1) ?_; simp [-splice, f0, f9, f12]
          refine Stk.cv (g := 174) (args := [.sc (.int .i32 a0)]) (args' := [.sc (.int .i32 a0)]) (v := .sc (.bool x3)) [] (ok_R02_scalar F _ _ hx3) (by simp [-splice, f0, f9, f12]) rfl rfl (by simp [-splice, f0, f9, f12]) (.cons (.free (rfl)) (.nil)) (.inl ⟨rfl, rfl⟩) (fun t' ht' => ?_)
          subst ht'
          refine evY_sound (f := 2) ?_; simp [-splice, f0, f9, f12]
          exact Stk.ln 0 (by decide) (hJ2 _ _ _ ⟨x3, h, by and_intros <;> first | assumption | simp [-splice, f0, f9, f12]⟩)
        · rw [hb2] at f12
          replace h := cF hb2 h
          refine evY_sound (f := 4) ?_; simp [-splice, f0, f9, f12]
          exact Stk.ln 0 (by decide) (hJ2 _ _ _ ⟨false, h, by and_intros <;> first | assumption | simp [-splice, f0, f9, f12]⟩)
      clear h f0 f9 f12
      rintro t H n ⟨v2, h, f9, f15⟩
      subst hK2
      refine evY_sound (f := 2) ?_; simp [-splice, f9, f15]
      exact Stk.ln 0 (by decide) (hJ1 _ _ _ ⟨v2, h, by simp [-splice, f9, f15]⟩)
  clear h f0 f9
  rintro t H n ⟨v1, h, f16⟩
  subst hK1
  refine evY_sound (f := 3) ?_; simp [-splice, f16]
  have hq := Option.some.inj h; subst hq
  exact (hr _ _ _ (.sc (.bool v1)) ([]) (by simp [-splice, f16]) (.inr (.inr (.free (rfl))))).1
theorem ok_R02_Up (F : Nat) (a0 : Int) (r : Bool) (h : R02_Up F a0 = some r) : RunF Tryz.prog T.T 117 [.sc (.int .i32 a0)] (.sc (.bool r)) := by
  rw [R02_Up] at h
  refine RunF.z Tryz.func117 rfl rfl rfl rfl rfl (fun C hr => ?_)
  refine Stk.gen (fun t H n => t 0 = .sc (.int .i32 a0)) (by simp) ?_
  rintro t H n f0
  refine evY_sound (f := 9) ?_; simp [-splice, f0]
  refine Stk.gd 3 5 8 (fun z => .sc (.bool (z && (decide (a0 ≤ 90))))) (w := decide (65 ≤ a0)) (by simp [-splice, f0]) (by simp [-splice, f0]) (by simp [-splice, f0]) ?_; simp [-splice, f0]
  refine evY_sound (f := 3) ?_; simp [-splice, f0]
  have hq := Option.some.inj h; subst hq
  exact (hr _ _ _ (.sc (.bool ((decide (65 ≤ a0)) && (decide (a0 ≤ 90))))) ([]) (by simp [-splice, f0]) (.inr (.inr (.free (rfl))))).1
theorem ok_R02_Digit (F : Nat) (a0 : Int) (r : Bool) (h : R02_Digit F a0 = some r) : RunF Tryz.prog T.T 175 [.sc (.int .i32 a0)] (.sc (.bool r)) := by
  rw [R02_Digit] at h
  refine RunF.z Tryz.func175 rfl rfl rfl rfl rfl (fun C hr => ?_)
  refine Stk.gen (fun t H n => t 0 = .sc (.int .i32 a0)) (by simp) ?_
  rintro t H n f0
  refine evY_sound (f := 9) ?_; simp [-splice, f0]
  refine Stk.gd 3 5 8 (fun z => .sc (.bool (z && (decide (a0 ≤ 57))))) (w := decide (48 ≤ a0)) (by simp [-splice, f0]) (by simp [-splice, f0]) (by simp [-splice, f0]) ?_; simp [-splice, f0]
  refine evY_sound (f := 3) ?_; simp [-splice, f0]
  have hq := Option.some.inj h; subst hq
  exact (hr _ _ _ (.sc (.bool ((decide (48 ≤ a0)) && (decide (a0 ≤ 57))))) ([]) (by simp [-splice, f0]) (.inr (.inr (.free (rfl))))).1
theorem ok_R03_part (F : Nat) (a0 : Int) (r : Bool) (h : R03_part F a0 = some r) : RunF Tryz.prog T.T 116 [.sc (.int .i32 a0)] (.sc (.bool r)) := by
  rw [R03_part] at h
  refine RunF.z Tryz.func116 rfl rfl rfl rfl rfl (fun C hr => ?_)
  refine Stk.gen (fun t H n => t 0 = .sc (.int .i32 a0)) (by simp) ?_
  rintro t H n f0
  obtain ⟨x1, hx1, h⟩ := bnd h
  refine evY_sound (f := 7) ?_; simp [-splice, f0]
  refine Stk.cv (g := 118) (args := [.sc (.int .i32 a0)]) (args' := [.sc (.int .i32 a0)]) (v := .sc (.bool x1)) [] (ok_R02_Low F _ _ hx1) (by simp [-splice, f0]) rfl rfl (by simp [-splice, f0]) (.cons (.free (rfl)) (.nil)) (.inl ⟨rfl, rfl⟩) (fun t' ht' => ?_)
  subst ht'
  refine evY_sound (f := 1) ?_; simp [-splice, f0]
  refine Stk.gen (fun t H n => t 0 = .sc (.int .i32 a0) ∧ t 5 = .sc (.bool x1)) (by and_intros <;> first | assumption | simp [-splice, f0]) ?_
  clear f0
  rintro t H n ⟨f0, f5⟩
  obtain ⟨K1, hK1, h⟩ := jnd h
  refine Stk.jo 3 (fun t H n => ∃ v2 : Bool, K1 v2 = some r ∧ t 0 = .sc (.int .i32 a0) ∧ t 8 = .sc (.bool v2)) (fun J1 hJ1 => ?_) ?_
  · rcases Bool.eq_false_or_eq_true x1 with hb1 | hb1
    · rw [hb1] at f5
      replace h := cT hb1 h
      refine evY_sound (f := 4) ?_; simp [-splice, f0, f5]
      exact Stk.ln 0 (by decide) (hJ1 _ _ _ ⟨true, h, by and_intros <;> first | assumption | simp [-splice, f0, f5]⟩)
    · rw [hb1] at f5
      replace h := cF hb1 h
      obtain ⟨x3, hx3, h⟩ := bnd h
      refine evY_sound (f := 1) ?_; simp [-splice, f0, f5]
      refine Stk.cv (g := 117) (args := [.sc (.int .i32 a0)]) (args' := [.sc (.int .i32 a0)]) (v := .sc (.bool x3)) [] (ok_R02_Up F _ _ hx3) (by simp [-splice, f0, f5]) rfl rfl (by simp [-splice, f0, f5]) (.cons (.free (rfl)) (.nil)) (.inl ⟨rfl, rfl⟩) (fun t' ht' => ?_)
      subst ht'
      refine evY_sound (f := 2) ?_; simp [-splice, f0, f5]
      exact Stk.ln 0 (by decide) (hJ1 _ _ _ ⟨x3, h, by and_intros <;> first | assumption | simp [-splice, f0, f5]⟩)
  clear h f0 f5
  rintro t H n ⟨v2, h, f0, f8⟩
  subst hK1
  refine evY_sound (f := 1) ?_; simp [-splice, f0, f8]
  refine Stk.gen (fun t H n => t 0 = .sc (.int .i32 a0) ∧ t 9 = .sc (.bool v2)) (by and_intros <;> first | assumption | simp [-splice, f0, f8]) ?_
  clear f0 f8
  rintro t H n ⟨f0, f9⟩
  obtain ⟨K2, hK2, h⟩ := jnd h
  refine Stk.jo 3 (fun t H n => ∃ v4 : Bool, K2 v4 = some r ∧ t 0 = .sc (.int .i32 a0) ∧ t 12 = .sc (.bool v4)) (fun J2 hJ2 => ?_) ?_
  · rcases Bool.eq_false_or_eq_true v2 with hb2 | hb2
    · rw [hb2] at f9
      replace h := cT hb2 h
      refine evY_sound (f := 4) ?_; simp [-splice, f0, f9]
      exact Stk.ln 0 (by decide) (hJ2 _ _ _ ⟨true, h, by and_intros <;> first | assumption | simp [-splice, f0, f9]⟩)
    · rw [hb2] at f9
      replace h := cF hb2 h
      obtain ⟨x5, hx5, h⟩ := bnd h
      refine evY_sound (f := 1) ?_; simp [-splice, f0, f9]
      refine Stk.cv (g := 175) (args := [.sc (.int .i32 a0)]) (args' := [.sc (.int .i32 a0)]) (v := .sc (.bool x5)) [] (ok_R02_Digit F _ _ hx5) (by simp [-splice, f0, f9]) rfl rfl (by simp [-splice, f0, f9]) (.cons (.free (rfl)) (.nil)) (.inl ⟨rfl, rfl⟩) (fun t' ht' => ?_)
      subst ht'
      refine evY_sound (f := 2) ?_; simp [-splice, f0, f9]
      exact Stk.ln 0 (by decide) (hJ2 _ _ _ ⟨x5, h, by and_intros <;> first | assumption | simp [-splice, f0, f9]⟩)
  clear h f0 f9
  rintro t H n ⟨v4, h, f0, f12⟩
  subst hK2
  refine evY_sound (f := 1) ?_; simp [-splice, f0, f12]
  refine Stk.gd 3 13 16 (fun z => .sc (.bool (z || (a0 == 95)))) (w := v4) (by simp [-splice, f0, f12]) (by simp [-splice, f0, f12]) (by simp [-splice, f0, f12]) ?_; simp [-splice, f0, f12]
  refine evY_sound (f := 3) ?_; simp [-splice, f0, f12]
  have hq := Option.some.inj h; subst hq
  exact (hr _ _ _ (.sc (.bool (v4 || (a0 == 95)))) ([]) (by simp [-splice, f0, f12]) (.inr (.inr (.free (rfl))))).1
theorem ok_R03_Word (F : Nat) (a0 : ByteArray) (r : Bool) (h : R03_Word F a0 = some r) : RunF Tryz.prog T.T 119 [.sc (.string a0)] (.sc (.bool r)) := by
  rw [R03_Word] at h
  refine RunF.z Tryz.func119 rfl rfl rfl rfl rfl (fun C hr => ?_)
  refine Stk.gen (fun t H n => t 0 = .sc (.string a0)) (by simp) ?_
  rintro t H n f0
  refine evY_sound (f := 16) ?_; simp [-splice, f0]
  refine Stk.cond (a0.toList == (⟨#[99, 97, 112]⟩ : ByteArray).toList) (by simp [-splice, f0]) (fun hb1 => ?_) (fun hb1 => ?_)
  ·have h := cT hb1 h
   refine evY_sound (f := 1) ?_; simp [-splice, f0]
   refine Stk.cond true (Eq.trans (b := AV.sc (.bool ((a0.toList == (⟨#[99, 97, 112]⟩ : ByteArray).toList)))) (by simp [-splice, f0]) (by rw [hb1])) (fun hb => ?_) (fun hb => by cases hb)
   refine evY_sound (f := 5) ?_; simp [-splice, f0]
   have hq := Option.some.inj h; subst hq
   exact (hr _ _ _ (.sc (.bool true)) ([]) (by simp [-splice, f0]) (.inr (.inr (.free (rfl))))).1
  ·have h := cF hb1 h
   refine evY_sound (f := 5) ?_; simp [-splice, f0]
   refine Stk.cond (a0.toList == (⟨#[100, 111]⟩ : ByteArray).toList) (by simp [-splice, f0]) (fun hb2 => ?_) (fun hb2 => ?_)
   ·have h := cT hb2 h
    refine evY_sound (f := 1) ?_; simp [-splice, f0]
    refine Stk.cond true (Eq.trans (b := AV.sc (.bool ((a0.toList == (⟨#[100, 111]⟩ : ByteArray).toList)))) (by simp [-splice, f0]) (by rw [hb2])) (fun hb => ?_) (fun hb => by cases hb)
    refine evY_sound (f := 5) ?_; simp [-splice, f0]
    have hq := Option.some.inj h; subst hq
    exact (hr _ _ _ (.sc (.bool true)) ([]) (by simp [-splice, f0]) (.inr (.inr (.free (rfl))))).1
   ·have h := cF hb2 h
    refine evY_sound (f := 5) ?_; simp [-splice, f0]
    refine Stk.cond (a0.toList == (⟨#[101, 108, 115, 101]⟩ : ByteArray).toList) (by simp [-splice, f0]) (fun hb3 => ?_) (fun hb3 => ?_)
    ·have h := cT hb3 h
     refine evY_sound (f := 1) ?_; simp [-splice, f0]
     refine Stk.cond true (Eq.trans (b := AV.sc (.bool ((a0.toList == (⟨#[101, 108, 115, 101]⟩ : ByteArray).toList)))) (by simp [-splice, f0]) (by rw [hb3])) (fun hb => ?_) (fun hb => by cases hb)
     refine evY_sound (f := 5) ?_; simp [-splice, f0]
     have hq := Option.some.inj h; subst hq
     exact (hr _ _ _ (.sc (.bool true)) ([]) (by simp [-splice, f0]) (.inr (.inr (.free (rfl))))).1
    ·have h := cF hb3 h
     refine evY_sound (f := 5) ?_; simp [-splice, f0]
     refine Stk.cond (a0.toList == (⟨#[101, 110, 100]⟩ : ByteArray).toList) (by simp [-splice, f0]) (fun hb4 => ?_) (fun hb4 => ?_)
     ·have h := cT hb4 h
      refine evY_sound (f := 1) ?_; simp [-splice, f0]
      refine Stk.cond true (Eq.trans (b := AV.sc (.bool ((a0.toList == (⟨#[101, 110, 100]⟩ : ByteArray).toList)))) (by simp [-splice, f0]) (by rw [hb4])) (fun hb => ?_) (fun hb => by cases hb)
      refine evY_sound (f := 5) ?_; simp [-splice, f0]
      have hq := Option.some.inj h; subst hq
      exact (hr _ _ _ (.sc (.bool true)) ([]) (by simp [-splice, f0]) (.inr (.inr (.free (rfl))))).1
     ·have h := cF hb4 h
      refine evY_sound (f := 5) ?_; simp [-splice, f0]
      refine Stk.cond (a0.toList == (⟨#[102, 111, 114]⟩ : ByteArray).toList) (by simp [-splice, f0]) (fun hb5 => ?_) (fun hb5 => ?_)
      ·have h := cT hb5 h
       refine evY_sound (f := 1) ?_; simp [-splice, f0]
       refine Stk.cond true (Eq.trans (b := AV.sc (.bool ((a0.toList == (⟨#[102, 111, 114]⟩ : ByteArray).toList)))) (by simp [-splice, f0]) (by rw [hb5])) (fun hb => ?_) (fun hb => by cases hb)
       refine evY_sound (f := 5) ?_; simp [-splice, f0]
       have hq := Option.some.inj h; subst hq
       exact (hr _ _ _ (.sc (.bool true)) ([]) (by simp [-splice, f0]) (.inr (.inr (.free (rfl))))).1
      ·have h := cF hb5 h
       refine evY_sound (f := 5) ?_; simp [-splice, f0]
       refine Stk.cond (a0.toList == (⟨#[102, 117, 110]⟩ : ByteArray).toList) (by simp [-splice, f0]) (fun hb6 => ?_) (fun hb6 => ?_)
       ·have h := cT hb6 h
        refine evY_sound (f := 1) ?_; simp [-splice, f0]
        refine Stk.cond true (Eq.trans (b := AV.sc (.bool ((a0.toList == (⟨#[102, 117, 110]⟩ : ByteArray).toList)))) (by simp [-splice, f0]) (by rw [hb6])) (fun hb => ?_) (fun hb => by cases hb)
        refine evY_sound (f := 5) ?_; simp [-splice, f0]
        have hq := Option.some.inj h; subst hq
        exact (hr _ _ _ (.sc (.bool true)) ([]) (by simp [-splice, f0]) (.inr (.inr (.free (rfl))))).1
       ·have h := cF hb6 h
        refine evY_sound (f := 5) ?_; simp [-splice, f0]
        refine Stk.cond (a0.toList == (⟨#[105, 102]⟩ : ByteArray).toList) (by simp [-splice, f0]) (fun hb7 => ?_) (fun hb7 => ?_)
        ·have h := cT hb7 h
         refine evY_sound (f := 1) ?_; simp [-splice, f0]
         refine Stk.cond true (Eq.trans (b := AV.sc (.bool ((a0.toList == (⟨#[105, 102]⟩ : ByteArray).toList)))) (by simp [-splice, f0]) (by rw [hb7])) (fun hb => ?_) (fun hb => by cases hb)
         refine evY_sound (f := 5) ?_; simp [-splice, f0]
         have hq := Option.some.inj h; subst hq
         exact (hr _ _ _ (.sc (.bool true)) ([]) (by simp [-splice, f0]) (.inr (.inr (.free (rfl))))).1
        ·have h := cF hb7 h
         refine evY_sound (f := 5) ?_; simp [-splice, f0]
         refine Stk.cond (a0.toList == (⟨#[105, 110]⟩ : ByteArray).toList) (by simp [-splice, f0]) (fun hb8 => ?_) (fun hb8 => ?_)
         ·have h := cT hb8 h
          refine evY_sound (f := 1) ?_; simp [-splice, f0]
          refine Stk.cond true (Eq.trans (b := AV.sc (.bool ((a0.toList == (⟨#[105, 110]⟩ : ByteArray).toList)))) (by simp [-splice, f0]) (by rw [hb8])) (fun hb => ?_) (fun hb => by cases hb)
          refine evY_sound (f := 5) ?_; simp [-splice, f0]
          have hq := Option.some.inj h; subst hq
          exact (hr _ _ _ (.sc (.bool true)) ([]) (by simp [-splice, f0]) (.inr (.inr (.free (rfl))))).1
         ·have h := cF hb8 h
          refine evY_sound (f := 5) ?_; simp [-splice, f0]
          refine Stk.cond (a0.toList == (⟨#[108, 101, 116]⟩ : ByteArray).toList) (by simp [-splice, f0]) (fun hb9 => ?_) (fun hb9 => ?_)
          ·have h := cT hb9 h
           refine evY_sound (f := 1) ?_; simp [-splice, f0]
           refine Stk.cond true (Eq.trans (b := AV.sc (.bool ((a0.toList == (⟨#[108, 101, 116]⟩ : ByteArray).toList)))) (by simp [-splice, f0]) (by rw [hb9])) (fun hb => ?_) (fun hb => by cases hb)
           refine evY_sound (f := 5) ?_; simp [-splice, f0]
           have hq := Option.some.inj h; subst hq
           exact (hr _ _ _ (.sc (.bool true)) ([]) (by simp [-splice, f0]) (.inr (.inr (.free (rfl))))).1
          ·have h := cF hb9 h
           refine evY_sound (f := 5) ?_; simp [-splice, f0]
           refine Stk.cond (a0.toList == (⟨#[109, 97, 116, 99, 104]⟩ : ByteArray).toList) (by simp [-splice, f0]) (fun hb10 => ?_) (fun hb10 => ?_)
           ·have h := cT hb10 h
            refine evY_sound (f := 1) ?_; simp [-splice, f0]
            refine Stk.cond true (Eq.trans (b := AV.sc (.bool ((a0.toList == (⟨#[109, 97, 116, 99, 104]⟩ : ByteArray).toList)))) (by simp [-splice, f0]) (by rw [hb10])) (fun hb => ?_) (fun hb => by cases hb)
            refine evY_sound (f := 5) ?_; simp [-splice, f0]
            have hq := Option.some.inj h; subst hq
            exact (hr _ _ _ (.sc (.bool true)) ([]) (by simp [-splice, f0]) (.inr (.inr (.free (rfl))))).1
           ·have h := cF hb10 h
            refine evY_sound (f := 5) ?_; simp [-splice, f0]
            refine Stk.cond (a0.toList == (⟨#[111, 102]⟩ : ByteArray).toList) (by simp [-splice, f0]) (fun hb11 => ?_) (fun hb11 => ?_)
            ·have h := cT hb11 h
             refine evY_sound (f := 1) ?_; simp [-splice, f0]
             refine Stk.cond true (Eq.trans (b := AV.sc (.bool ((a0.toList == (⟨#[111, 102]⟩ : ByteArray).toList)))) (by simp [-splice, f0]) (by rw [hb11])) (fun hb => ?_) (fun hb => by cases hb)
             refine evY_sound (f := 5) ?_; simp [-splice, f0]
             have hq := Option.some.inj h; subst hq
             exact (hr _ _ _ (.sc (.bool true)) ([]) (by simp [-splice, f0]) (.inr (.inr (.free (rfl))))).1
            ·have h := cF hb11 h
             refine evY_sound (f := 5) ?_; simp [-splice, f0]
             refine Stk.cond (a0.toList == (⟨#[111, 110]⟩ : ByteArray).toList) (by simp [-splice, f0]) (fun hb12 => ?_) (fun hb12 => ?_)
             ·have h := cT hb12 h
              refine evY_sound (f := 1) ?_; simp [-splice, f0]
              refine Stk.cond true (Eq.trans (b := AV.sc (.bool ((a0.toList == (⟨#[111, 110]⟩ : ByteArray).toList)))) (by simp [-splice, f0]) (by rw [hb12])) (fun hb => ?_) (fun hb => by cases hb)
              refine evY_sound (f := 5) ?_; simp [-splice, f0]
              have hq := Option.some.inj h; subst hq
              exact (hr _ _ _ (.sc (.bool true)) ([]) (by simp [-splice, f0]) (.inr (.inr (.free (rfl))))).1
             ·have h := cF hb12 h
              refine evY_sound (f := 5) ?_; simp [-splice, f0]
              refine Stk.cond (a0.toList == (⟨#[113, 117, 101, 117, 101]⟩ : ByteArray).toList) (by simp [-splice, f0]) (fun hb13 => ?_) (fun hb13 => ?_)
              ·have h := cT hb13 h
               refine evY_sound (f := 1) ?_; simp [-splice, f0]
               refine Stk.cond true (Eq.trans (b := AV.sc (.bool ((a0.toList == (⟨#[113, 117, 101, 117, 101]⟩ : ByteArray).toList)))) (by simp [-splice, f0]) (by rw [hb13])) (fun hb => ?_) (fun hb => by cases hb)
               refine evY_sound (f := 5) ?_; simp [-splice, f0]
               have hq := Option.some.inj h; subst hq
               exact (hr _ _ _ (.sc (.bool true)) ([]) (by simp [-splice, f0]) (.inr (.inr (.free (rfl))))).1
              ·have h := cF hb13 h
               refine evY_sound (f := 5) ?_; simp [-splice, f0]
               refine Stk.cond (a0.toList == (⟨#[115, 116, 97, 116, 101]⟩ : ByteArray).toList) (by simp [-splice, f0]) (fun hb14 => ?_) (fun hb14 => ?_)
               ·have h := cT hb14 h
                refine evY_sound (f := 1) ?_; simp [-splice, f0]
                refine Stk.cond true (Eq.trans (b := AV.sc (.bool ((a0.toList == (⟨#[115, 116, 97, 116, 101]⟩ : ByteArray).toList)))) (by simp [-splice, f0]) (by rw [hb14])) (fun hb => ?_) (fun hb => by cases hb)
                refine evY_sound (f := 5) ?_; simp [-splice, f0]
                have hq := Option.some.inj h; subst hq
                exact (hr _ _ _ (.sc (.bool true)) ([]) (by simp [-splice, f0]) (.inr (.inr (.free (rfl))))).1
               ·have h := cF hb14 h
                refine evY_sound (f := 5) ?_; simp [-splice, f0]
                refine Stk.cond (a0.toList == (⟨#[116, 104, 101, 110]⟩ : ByteArray).toList) (by simp [-splice, f0]) (fun hb15 => ?_) (fun hb15 => ?_)
                ·have h := cT hb15 h
                 refine evY_sound (f := 1) ?_; simp [-splice, f0]
                 refine Stk.cond true (Eq.trans (b := AV.sc (.bool ((a0.toList == (⟨#[116, 104, 101, 110]⟩ : ByteArray).toList)))) (by simp [-splice, f0]) (by rw [hb15])) (fun hb => ?_) (fun hb => by cases hb)
                 refine evY_sound (f := 5) ?_; simp [-splice, f0]
                 have hq := Option.some.inj h; subst hq
                 exact (hr _ _ _ (.sc (.bool true)) ([]) (by simp [-splice, f0]) (.inr (.inr (.free (rfl))))).1
                ·have h := cF hb15 h
                 refine evY_sound (f := 5) ?_; simp [-splice, f0]
                 refine Stk.cond (a0.toList == (⟨#[116, 105, 109, 101, 114, 115]⟩ : ByteArray).toList) (by simp [-splice, f0]) (fun hb16 => ?_) (fun hb16 => ?_)
                 ·have h := cT hb16 h
                  refine evY_sound (f := 1) ?_; simp [-splice, f0]
                  refine Stk.cond true (Eq.trans (b := AV.sc (.bool ((a0.toList == (⟨#[116, 105, 109, 101, 114, 115]⟩ : ByteArray).toList)))) (by simp [-splice, f0]) (by rw [hb16])) (fun hb => ?_) (fun hb => by cases hb)
                  refine evY_sound (f := 5) ?_; simp [-splice, f0]
                  have hq := Option.some.inj h; subst hq
                  exact (hr _ _ _ (.sc (.bool true)) ([]) (by simp [-splice, f0]) (.inr (.inr (.free (rfl))))).1
                 ·have h := cF hb16 h
                  refine evY_sound (f := 5) ?_; simp [-splice, f0]
                  refine Stk.cond (a0.toList == (⟨#[116, 121, 112, 101]⟩ : ByteArray).toList) (by simp [-splice, f0]) (fun hb17 => ?_) (fun hb17 => ?_)
                  ·have h := cT hb17 h
                   refine evY_sound (f := 1) ?_; simp [-splice, f0]
                   refine Stk.cond true (Eq.trans (b := AV.sc (.bool ((a0.toList == (⟨#[116, 121, 112, 101]⟩ : ByteArray).toList)))) (by simp [-splice, f0]) (by rw [hb17])) (fun hb => ?_) (fun hb => by cases hb)
                   refine evY_sound (f := 5) ?_; simp [-splice, f0]
                   have hq := Option.some.inj h; subst hq
                   exact (hr _ _ _ (.sc (.bool true)) ([]) (by simp [-splice, f0]) (.inr (.inr (.free (rfl))))).1
                  ·have h := cF hb17 h
                   refine evY_sound (f := 4) ?_; simp [-splice, f0]
                   refine Stk.cond (a0.toList == (⟨#[119, 105, 116, 104]⟩ : ByteArray).toList) (by simp [-splice, f0]) (fun hb18 => ?_) (fun hb18 => ?_)
                   ·have h := cT hb18 h
                    refine evY_sound (f := 5) ?_; simp [-splice, f0]
                    have hq := Option.some.inj h; subst hq
                    exact (hr _ _ _ (.sc (.bool true)) ([]) (by simp [-splice, f0]) (.inr (.inr (.free (rfl))))).1
                   ·have h := cF hb18 h
                    refine evY_sound (f := 7) ?_; simp [-splice, f0]
                    have hq := Option.some.inj h; subst hq
                    exact (hr _ _ _ (.sc (.bool false)) ([]) (by simp [-splice, f0]) (.inr (.inr (.free (rfl))))).1
theorem ok_R03_Named (F : Nat) (a0 : ByteArray) (a1 : Bool) (r : Bool) (h : R03_Named F a0 a1 = some r) : RunF Tryz.prog T.T 45 [.sc (.string a0), .sc (.bool a1)] (.sc (.bool r)) := by
  rw [R03_Named] at h
  refine RunF.z Tryz.func45 rfl rfl rfl rfl rfl (fun C hr => ?_)
  refine Stk.gen (fun t H n => t 0 = .sc (.string a0) ∧ t 1 = .sc (.bool a1)) ⟨by simp, by simp⟩ ?_
  rintro t H n ⟨f0, f1⟩
  refine evY_sound (f := 13) ?_; simp [-splice, f0, f1]
  obtain ⟨K1, hK1, h⟩ := jnd h
  refine Stk.jn (fun t H n => ∃ v1 : Int, K1 v1 = some r ∧ t 0 = .sc (.string a0) ∧ t 5 = .sc (.int .i64 v1)) trivial (fun J1 hJ1 => ?_) ?_
  · skip
    refine evY_sound (f := 1) ?_; simp [-splice, f0, f1]
    refine Stk.gen (fun t H n => t 0 = .sc (.string a0) ∧ t 1 = .sc (.bool a1) ∧ t 5 = .sc (.int .i64 0) ∧ t 6 = .sc (.int .i64 0)) (by and_intros <;> first | assumption | simp [-splice, f0, f1]) ?_
    clear f0 f1
    rintro t H n ⟨f0, f1, f5, f6⟩
    refine Stk.lo (fun μ t H n => ∃ v2 : Int, ∃ v3 : Int, R03_Named_L0 F a0 a1 K1 μ v2 v3 = some r ∧ t 0 = .sc (.string a0) ∧ t 1 = .sc (.bool a1) ∧ t 5 = .sc (.int .i64 v2) ∧ t 6 = .sc (.int .i64 v3)) F ⟨0, 0, h, f0, f1, f5, f6⟩ ?_
    clear h f0 f1 f5 f6
    rintro J2 hJ2 μ t H n ⟨v2, v3, h, f0, f1, f5, f6⟩
    cases μ with
    | zero => exact absurd h (by simp [R03_Named_L0])
    | succ μ =>
    rw [R03_Named_L0] at h
    refine evY_sound (f := 8) ?_; simp [-splice, f0, f1, f5, f6]
    refine Stk.cond (decide (v3 < (a0.size : Int))) (by simp [-splice, f0, f1, f5, f6]) (fun hb6 => ?_) (fun hb6 => ?_)
    ·have h := cT hb6 h
     obtain ⟨x7, hx7, h⟩ := bnd h
     refine evY_sound (f := 6) ?_; simp [-splice, f0, f1, f5, f6]
     refine Stk.cv (g := 115) (args := [.sc (.string a0), .sc (.int .i64 v3)]) (args' := [.sc (.string a0), .sc (.int .i64 v3)]) (v := .tup [.sc (.int .i32 x7.1), .sc (.int .i64 x7.2)]) [] (ok_R02_One F _ _ _ hx7) (by simp [-splice, f0, f1, f5, f6]) rfl rfl (by simp [-splice, f0, f1, f5, f6]) (.cons (.free (rfl)) (.cons (.free (rfl)) (.nil))) (.inl ⟨rfl, by simp [free, freeL]⟩) (fun t' ht' => ?_)
     subst ht'
     refine evY_sound (f := 12) ?_; simp [-splice, f0, f1, f5, f6]
     refine Stk.gen (fun t H n => t 0 = .sc (.string a0) ∧ t 1 = .sc (.bool a1) ∧ t 5 = .sc (.int .i64 v2) ∧ t 6 = .sc (.int .i64 v3) ∧ t 7 = .sc (.int .i32 x7.1) ∧ t 8 = .sc (.int .i64 x7.2) ∧ t 21 = .sc (.bool (x7.2 == 0))) (by and_intros <;> first | assumption | simp [-splice, f0, f1, f5, f6]) ?_
     clear f0 f1 f5 f6
     rintro t H n ⟨f0, f1, f5, f6, f7, f8, f21⟩
     obtain ⟨K3, hK3, h⟩ := jnd h
     refine Stk.jo 4 (fun t H n => ∃ v8 : Bool, K3 v8 = some r ∧ t 0 = .sc (.string a0) ∧ t 1 = .sc (.bool a1) ∧ t 5 = .sc (.int .i64 v2) ∧ t 6 = .sc (.int .i64 v3) ∧ t 7 = .sc (.int .i32 x7.1) ∧ t 8 = .sc (.int .i64 x7.2) ∧ t 25 = .sc (.bool v8)) (fun J3 hJ3 => ?_) ?_
     · rcases Bool.eq_false_or_eq_true (x7.2 == 0) with hb3 | hb3
       · rw [hb3] at f21
         replace h := cT hb3 h
         refine evY_sound (f := 5) ?_; simp [-splice, f0, f1, f5, f6, f7, f8, f21]
         exact Stk.ln 0 (by decide) (hJ3 _ _ _ ⟨true, h, by and_intros <;> first | assumption | simp [-splice, f0, f1, f5, f6, f7, f8, f21]⟩)
       · rw [hb3] at f21
         replace h := cF hb3 h
         obtain ⟨x9, hx9, h⟩ := bnd h
         refine evY_sound (f := 1) ?_; simp [-splice, f0, f1, f5, f6, f7, f8, f21]
         refine Stk.cv (g := 116) (args := [.sc (.int .i32 x7.1)]) (args' := [.sc (.int .i32 x7.1)]) (v := .sc (.bool x9)) [] (ok_R03_part F _ _ hx9) (by simp [-splice, f0, f1, f5, f6, f7, f8, f21]) rfl rfl (by simp [-splice, f0, f1, f5, f6, f7, f8, f21]) (.cons (.free (rfl)) (.nil)) (.inl ⟨rfl, rfl⟩) (fun t' ht' => ?_)
         subst ht'
         refine evY_sound (f := 3) ?_; simp [-splice, f0, f1, f5, f6, f7, f8, f21]
         exact Stk.ln 0 (by decide) (hJ3 _ _ _ ⟨(!x9), h, by and_intros <;> first | assumption | simp [-splice, f0, f1, f5, f6, f7, f8, f21]⟩)
     clear h f0 f1 f5 f6 f7 f8 f21
     rintro t H n ⟨v8, h, f0, f1, f5, f6, f7, f8, f25⟩
     subst hK3
     refine evY_sound (f := 1) ?_; simp [-splice, f0, f1, f5, f6, f7, f8, f25]
     refine Stk.gen (fun t H n => t 0 = .sc (.string a0) ∧ t 1 = .sc (.bool a1) ∧ t 5 = .sc (.int .i64 v2) ∧ t 6 = .sc (.int .i64 v3) ∧ t 7 = .sc (.int .i32 x7.1) ∧ t 8 = .sc (.int .i64 x7.2) ∧ t 26 = .sc (.bool v8)) (by and_intros <;> first | assumption | simp [-splice, f0, f1, f5, f6, f7, f8, f25]) ?_
     clear f0 f1 f5 f6 f7 f8 f25
     rintro t H n ⟨f0, f1, f5, f6, f7, f8, f26⟩
     obtain ⟨K4, hK4, h⟩ := jnd h
     refine Stk.jo 20 (fun t H n => ∃ v10 : Bool, K4 v10 = some r ∧ t 0 = .sc (.string a0) ∧ t 1 = .sc (.bool a1) ∧ t 5 = .sc (.int .i64 v2) ∧ t 6 = .sc (.int .i64 v3) ∧ t 8 = .sc (.int .i64 x7.2) ∧ t 46 = .sc (.bool v10)) (fun J4 hJ4 => ?_) ?_
     · rcases Bool.eq_false_or_eq_true v8 with hb4 | hb4
       · rw [hb4] at f26
         replace h := cT hb4 h
         refine evY_sound (f := 21) ?_; simp [-splice, f0, f1, f5, f6, f7, f8, f26]
         exact Stk.ln 0 (by decide) (hJ4 _ _ _ ⟨true, h, by and_intros <;> first | assumption | simp [-splice, f0, f1, f5, f6, f7, f8, f26]⟩)
       · rw [hb4] at f26
         replace h := cF hb4 h
         refine evY_sound (f := 3) ?_; simp [-splice, f0, f1, f5, f6, f7, f8, f26]
         refine Stk.gen (fun t H n => t 0 = .sc (.string a0) ∧ t 1 = .sc (.bool a1) ∧ t 5 = .sc (.int .i64 v2) ∧ t 6 = .sc (.int .i64 v3) ∧ t 7 = .sc (.int .i32 x7.1) ∧ t 8 = .sc (.int .i64 x7.2) ∧ t 26 = .sc (.bool false) ∧ t 29 = .sc (.bool (v2 == 0))) (by and_intros <;> first | assumption | simp [-splice, f0, f1, f5, f6, f7, f8, f26]) ?_
         clear f0 f1 f5 f6 f7 f8 f26
         rintro t H n ⟨f0, f1, f5, f6, f7, f8, f26, f29⟩
         obtain ⟨K5, hK5, h⟩ := jnd h
         refine Stk.jo 16 (fun t H n => ∃ v11 : Bool, K5 v11 = some r ∧ t 0 = .sc (.string a0) ∧ t 1 = .sc (.bool a1) ∧ t 5 = .sc (.int .i64 v2) ∧ t 6 = .sc (.int .i64 v3) ∧ t 8 = .sc (.int .i64 x7.2) ∧ t 26 = .sc (.bool false) ∧ t 45 = .sc (.bool v11)) (fun J5 hJ5 => ?_) ?_
         · rcases Bool.eq_false_or_eq_true (v2 == 0) with hb5 | hb5
           · rw [hb5] at f29
             replace h := cT hb5 h
             refine evY_sound (f := 2) ?_; simp [-splice, f0, f1, f5, f6, f7, f8, f26, f29]
             refine Stk.gen (fun t H n => t 0 = .sc (.string a0) ∧ t 1 = .sc (.bool a1) ∧ t 5 = .sc (.int .i64 v2) ∧ t 6 = .sc (.int .i64 v3) ∧ t 7 = .sc (.int .i32 x7.1) ∧ t 8 = .sc (.int .i64 x7.2) ∧ t 26 = .sc (.bool false) ∧ t 29 = .sc (.bool true) ∧ t 31 = .sc (.bool a1)) (by and_intros <;> first | assumption | simp [-splice, f0, f1, f5, f6, f7, f8, f26, f29]) ?_
             clear f0 f1 f5 f6 f7 f8 f26 f29
             rintro t H n ⟨f0, f1, f5, f6, f7, f8, f26, f29, f31⟩
             obtain ⟨K6, hK6, h⟩ := jnd h
             refine Stk.jo 4 (fun t H n => ∃ v12 : Bool, K6 v12 = some r ∧ t 0 = .sc (.string a0) ∧ t 1 = .sc (.bool a1) ∧ t 5 = .sc (.int .i64 v2) ∧ t 6 = .sc (.int .i64 v3) ∧ t 7 = .sc (.int .i32 x7.1) ∧ t 8 = .sc (.int .i64 x7.2) ∧ t 26 = .sc (.bool false) ∧ t 29 = .sc (.bool true) ∧ t 35 = .sc (.bool v12)) (fun J6 hJ6 => ?_) ?_
             · rcases Bool.eq_false_or_eq_true a1 with hb6 | hb6
               · rw [hb6] at f31
                 replace h := cT hb6 h
                 obtain ⟨x13, hx13, h⟩ := bnd h
                 refine evY_sound (f := 1) ?_; simp [-splice, f0, f1, f5, f6, f7, f8, f26, f29, f31]
                 refine Stk.cv (g := 117) (args := [.sc (.int .i32 x7.1)]) (args' := [.sc (.int .i32 x7.1)]) (v := .sc (.bool x13)) [] (ok_R02_Up F _ _ hx13) (by simp [-splice, f0, f1, f5, f6, f7, f8, f26, f29, f31]) rfl rfl (by simp [-splice, f0, f1, f5, f6, f7, f8, f26, f29, f31]) (.cons (.free (rfl)) (.nil)) (.inl ⟨rfl, rfl⟩) (fun t' ht' => ?_)
                 subst ht'
                 refine evY_sound (f := 3) ?_; simp [-splice, f0, f1, f5, f6, f7, f8, f26, f29, f31]
                 exact Stk.ln 0 (by decide) (hJ6 _ _ _ ⟨(!x13), h, by and_intros <;> first | assumption | simp [-splice, f0, f1, f5, f6, f7, f8, f26, f29, f31]⟩)
               · rw [hb6] at f31
                 replace h := cF hb6 h
                 refine evY_sound (f := 5) ?_; simp [-splice, f0, f1, f5, f6, f7, f8, f26, f29, f31]
                 exact Stk.ln 0 (by decide) (hJ6 _ _ _ ⟨false, h, by and_intros <;> first | assumption | simp [-splice, f0, f1, f5, f6, f7, f8, f26, f29, f31]⟩)
             clear h f0 f1 f5 f6 f7 f8 f26 f29 f31
             rintro t H n ⟨v12, h, f0, f1, f5, f6, f7, f8, f26, f29, f35⟩
             subst hK6
             refine evY_sound (f := 1) ?_; simp [-splice, f0, f1, f5, f6, f7, f8, f26, f29, f35]
             refine Stk.gen (fun t H n => t 0 = .sc (.string a0) ∧ t 1 = .sc (.bool a1) ∧ t 5 = .sc (.int .i64 v2) ∧ t 6 = .sc (.int .i64 v3) ∧ t 7 = .sc (.int .i32 x7.1) ∧ t 8 = .sc (.int .i64 x7.2) ∧ t 26 = .sc (.bool false) ∧ t 29 = .sc (.bool true) ∧ t 36 = .sc (.bool v12)) (by and_intros <;> first | assumption | simp [-splice, f0, f1, f5, f6, f7, f8, f26, f29, f35]) ?_
             clear f0 f1 f5 f6 f7 f8 f26 f29 f35
             rintro t H n ⟨f0, f1, f5, f6, f7, f8, f26, f29, f36⟩
             obtain ⟨K7, hK7, h⟩ := jnd h
             refine Stk.jo 8 (fun t H n => ∃ v14 : Bool, K7 v14 = some r ∧ t 0 = .sc (.string a0) ∧ t 1 = .sc (.bool a1) ∧ t 5 = .sc (.int .i64 v2) ∧ t 6 = .sc (.int .i64 v3) ∧ t 8 = .sc (.int .i64 x7.2) ∧ t 26 = .sc (.bool false) ∧ t 29 = .sc (.bool true) ∧ t 44 = .sc (.bool v14)) (fun J7 hJ7 => ?_) ?_
             · rcases Bool.eq_false_or_eq_true v12 with hb7 | hb7
               · rw [hb7] at f36
                 replace h := cT hb7 h
                 refine evY_sound (f := 9) ?_; simp [-splice, f0, f1, f5, f6, f7, f8, f26, f29, f36]
                 exact Stk.ln 0 (by decide) (hJ7 _ _ _ ⟨true, h, by and_intros <;> first | assumption | simp [-splice, f0, f1, f5, f6, f7, f8, f26, f29, f36]⟩)
               · rw [hb7] at f36
                 replace h := cF hb7 h
                 refine evY_sound (f := 3) ?_; simp [-splice, f0, f1, f5, f6, f7, f8, f26, f29, f36]
                 refine Stk.gen (fun t H n => t 0 = .sc (.string a0) ∧ t 1 = .sc (.bool a1) ∧ t 5 = .sc (.int .i64 v2) ∧ t 6 = .sc (.int .i64 v3) ∧ t 7 = .sc (.int .i32 x7.1) ∧ t 8 = .sc (.int .i64 x7.2) ∧ t 26 = .sc (.bool false) ∧ t 29 = .sc (.bool true) ∧ t 36 = .sc (.bool false) ∧ t 39 = .sc (.bool (!a1))) (by and_intros <;> first | assumption | simp [-splice, f0, f1, f5, f6, f7, f8, f26, f29, f36]) ?_
                 clear f0 f1 f5 f6 f7 f8 f26 f29 f36
                 rintro t H n ⟨f0, f1, f5, f6, f7, f8, f26, f29, f36, f39⟩
                 obtain ⟨K8, hK8, h⟩ := jnd h
                 refine Stk.jo 4 (fun t H n => ∃ v15 : Bool, K8 v15 = some r ∧ t 0 = .sc (.string a0) ∧ t 1 = .sc (.bool a1) ∧ t 5 = .sc (.int .i64 v2) ∧ t 6 = .sc (.int .i64 v3) ∧ t 8 = .sc (.int .i64 x7.2) ∧ t 26 = .sc (.bool false) ∧ t 29 = .sc (.bool true) ∧ t 36 = .sc (.bool false) ∧ t 43 = .sc (.bool v15)) (fun J8 hJ8 => ?_) ?_
                 · rcases Bool.eq_false_or_eq_true (!a1) with hb8 | hb8
                   · rw [hb8] at f39
                     replace h := cT hb8 h
                     obtain ⟨x16, hx16, h⟩ := bnd h
                     refine evY_sound (f := 1) ?_; simp [-splice, f0, f1, f5, f6, f7, f8, f26, f29, f36, f39]
                     refine Stk.cv (g := 118) (args := [.sc (.int .i32 x7.1)]) (args' := [.sc (.int .i32 x7.1)]) (v := .sc (.bool x16)) [] (ok_R02_Low F _ _ hx16) (by simp [-splice, f0, f1, f5, f6, f7, f8, f26, f29, f36, f39]) rfl rfl (by simp [-splice, f0, f1, f5, f6, f7, f8, f26, f29, f36, f39]) (.cons (.free (rfl)) (.nil)) (.inl ⟨rfl, rfl⟩) (fun t' ht' => ?_)
                     subst ht'
                     refine evY_sound (f := 3) ?_; simp [-splice, f0, f1, f5, f6, f7, f8, f26, f29, f36, f39]
                     exact Stk.ln 0 (by decide) (hJ8 _ _ _ ⟨(!x16), h, by and_intros <;> first | assumption | simp [-splice, f0, f1, f5, f6, f7, f8, f26, f29, f36, f39]⟩)
                   · rw [hb8] at f39
                     replace h := cF hb8 h
                     refine evY_sound (f := 5) ?_; simp [-splice, f0, f1, f5, f6, f7, f8, f26, f29, f36, f39]
                     exact Stk.ln 0 (by decide) (hJ8 _ _ _ ⟨false, h, by and_intros <;> first | assumption | simp [-splice, f0, f1, f5, f6, f7, f8, f26, f29, f36, f39]⟩)
                 clear h f0 f1 f5 f6 f7 f8 f26 f29 f36 f39
                 rintro t H n ⟨v15, h, f0, f1, f5, f6, f8, f26, f29, f36, f43⟩
                 subst hK8
                 refine evY_sound (f := 2) ?_; simp [-splice, f0, f1, f5, f6, f8, f26, f29, f36, f43]
                 exact Stk.ln 0 (by decide) (hJ7 _ _ _ ⟨v15, h, by and_intros <;> first | assumption | simp [-splice, f0, f1, f5, f6, f8, f26, f29, f36, f43]⟩)
             clear h f0 f1 f5 f6 f7 f8 f26 f29 f36
             rintro t H n ⟨v14, h, f0, f1, f5, f6, f8, f26, f29, f44⟩
             subst hK7
             refine evY_sound (f := 2) ?_; simp [-splice, f0, f1, f5, f6, f8, f26, f29, f44]
             exact Stk.ln 0 (by decide) (hJ5 _ _ _ ⟨v14, h, by and_intros <;> first | assumption | simp [-splice, f0, f1, f5, f6, f8, f26, f29, f44]⟩)
           · rw [hb5] at f29
             replace h := cF hb5 h
             refine evY_sound (f := 17) ?_; simp [-splice, f0, f1, f5, f6, f7, f8, f26, f29]
             exact Stk.ln 0 (by decide) (hJ5 _ _ _ ⟨false, h, by and_intros <;> first | assumption | simp [-splice, f0, f1, f5, f6, f7, f8, f26, f29]⟩)
         clear h f0 f1 f5 f6 f7 f8 f26 f29
         rintro t H n ⟨v11, h, f0, f1, f5, f6, f8, f26, f45⟩
         subst hK5
         refine evY_sound (f := 2) ?_; simp [-splice, f0, f1, f5, f6, f8, f26, f45]
         exact Stk.ln 0 (by decide) (hJ4 _ _ _ ⟨v11, h, by and_intros <;> first | assumption | simp [-splice, f0, f1, f5, f6, f8, f26, f45]⟩)
     clear h f0 f1 f5 f6 f7 f8 f26
     rintro t H n ⟨v10, h, f0, f1, f5, f6, f8, f46⟩
     subst hK4
     refine evY_sound (f := 1) ?_; simp [-splice, f0, f1, f5, f6, f8, f46]
     refine Stk.gd 3 47 50 (fun z => .sc (.bool (z || (decide (24 ≤ v2))))) (w := v10) (by simp [-splice, f0, f1, f5, f6, f8, f46]) (by simp [-splice, f0, f1, f5, f6, f8, f46]) (by simp [-splice, f0, f1, f5, f6, f8, f46]) ?_; simp [-splice, f0, f1, f5, f6, f8, f46]
     refine evY_sound (f := 1) ?_; simp [-splice, f0, f1, f5, f6, f8, f46]
     refine Stk.cond (v10 || (decide (24 ≤ v2))) (by simp [-splice, f0, f1, f5, f6, f8, f46]) (fun hb17 => ?_) (fun hb17 => ?_)
     ·have h := cT hb17 h
      refine evY_sound (f := 5) ?_; simp [-splice, f0, f1, f5, f6, f8, f46]
      have hq := Option.some.inj h; subst hq
      exact (hr _ _ _ (.sc (.bool false)) ([]) (by simp [-splice, f0, f1, f5, f6, f8, f46]) (.inr (.inr (.free (rfl))))).1
     ·have h := cF hb17 h
      refine evY_sound (f := 14) ?_; simp [-splice, f0, f1, f5, f6, f8, f46]
      exact Stk.ln μ (Nat.lt_succ_self _) (hJ2 _ _ _ _ ⟨(IntKind.i64.wrap (v2 + 1)), (IntKind.i64.wrap (v3 + x7.2)), h, by and_intros <;> first | assumption | simp [-splice, f0, f1, f5, f6, f8, f46]⟩)
    ·have h := cF hb6 h
     refine Stk.ex rfl ?_
     exact Stk.ln 0 (by decide) (hJ1 _ _ _ ⟨v2, h, by and_intros <;> first | assumption | simp [-splice, f0, f1, f5, f6]⟩)
  clear h f0 f1
  rintro t H n ⟨v1, h, f0, f5⟩
  subst hK1
  refine evY_sound (f := 5) ?_; simp [-splice, f0, f5]
  refine Stk.gen (fun t H n => t 0 = .sc (.string a0) ∧ t 58 = .sc (.bool (decide (0 < v1)))) (by and_intros <;> first | assumption | simp [-splice, f0, f5]) ?_
  clear f0 f5
  rintro t H n ⟨f0, f58⟩
  obtain ⟨K9, hK9, h⟩ := jnd h
  refine Stk.jo 4 (fun t H n => ∃ v18 : Bool, K9 v18 = some r ∧ t 62 = .sc (.bool v18)) (fun J9 hJ9 => ?_) ?_
  · rcases Bool.eq_false_or_eq_true (decide (0 < v1)) with hb9 | hb9
    · rw [hb9] at f58
      replace h := cT hb9 h
      obtain ⟨x19, hx19, h⟩ := bnd h
      refine evY_sound (f := 1) ?_; simp [-splice, f0, f58]
      refine Stk.cv (g := 119) (args := [.sc (.string a0)]) (args' := [.sc (.string a0)]) (v := .sc (.bool x19)) [] (ok_R03_Word F _ _ hx19) (by simp [-splice, f0, f58]) rfl rfl (by simp [-splice, f0, f58]) (.cons (.free (rfl)) (.nil)) (.inl ⟨rfl, rfl⟩) (fun t' ht' => ?_)
      subst ht'
      refine evY_sound (f := 3) ?_; simp [-splice, f0, f58]
      exact Stk.ln 0 (by decide) (hJ9 _ _ _ ⟨(!x19), h, by simp [-splice, f0, f58]⟩)
    · rw [hb9] at f58
      replace h := cF hb9 h
      refine evY_sound (f := 5) ?_; simp [-splice, f0, f58]
      exact Stk.ln 0 (by decide) (hJ9 _ _ _ ⟨false, h, by simp [-splice, f0, f58]⟩)
  clear h f0 f58
  rintro t H n ⟨v18, h, f62⟩
  subst hK9
  refine evY_sound (f := 3) ?_; simp [-splice, f62]
  have hq := Option.some.inj h; subst hq
  exact (hr _ _ _ (.sc (.bool v18)) ([]) (by simp [-splice, f62]) (.inr (.inr (.free (rfl))))).1
theorem ok_R04_Small (F : Nat) (a0 : ByteArray) (r : Bool) (h : R04_Small F a0 = some r) : RunF Tryz.prog T.T 113 [.sc (.string a0)] (.sc (.bool r)) := by
  rw [R04_Small] at h
  refine RunF.z Tryz.func113 rfl rfl rfl rfl rfl (fun C hr => ?_)
  refine Stk.gen (fun t H n => t 0 = .sc (.string a0)) (by simp) ?_
  rintro t H n f0
  obtain ⟨x1, hx1, h⟩ := bnd h
  refine evY_sound (f := 7) ?_; simp [-splice, f0]
  refine Stk.cv (g := 45) (args := [.sc (.string a0), .sc (.bool false)]) (args' := [.sc (.string a0), .sc (.bool false)]) (v := .sc (.bool x1)) [] (ok_R03_Named F _ _ _ hx1) (by simp [-splice, f0]) rfl rfl (by simp [-splice, f0]) (.cons (.free (rfl)) (.cons (.free (rfl)) (.nil))) (.inl ⟨rfl, rfl⟩) (fun t' ht' => ?_)
  subst ht'
  refine evY_sound (f := 1) ?_; simp [-splice, f0]
  refine Stk.gd 3 5 8 (fun z => .sc (.bool (z && (!(a0.toList == (⟨#[105, 110, 116]⟩ : ByteArray).toList))))) (w := x1) (by simp [-splice, f0]) (by simp [-splice, f0]) (by simp [-splice, f0]) ?_; simp [-splice, f0]
  refine evY_sound (f := 1) ?_; simp [-splice, f0]
  refine Stk.gd 3 9 12 (fun z => .sc (.bool (z && (!(a0.toList == (⟨#[98, 121, 116, 101, 115]⟩ : ByteArray).toList))))) (w := (x1 && (!(a0.toList == (⟨#[105, 110, 116]⟩ : ByteArray).toList)))) (by simp [-splice, f0]) (by simp [-splice, f0]) (by simp [-splice, f0]) ?_; simp [-splice, f0]
  refine evY_sound (f := 3) ?_; simp [-splice, f0]
  have hq := Option.some.inj h; subst hq
  exact (hr _ _ _ (.sc (.bool ((x1 && (!(a0.toList == (⟨#[105, 110, 116]⟩ : ByteArray).toList))) && (!(a0.toList == (⟨#[98, 121, 116, 101, 115]⟩ : ByteArray).toList))))) ([]) (by simp [-splice, f0]) (.inr (.inr (.free (rfl))))).1
theorem okB_R04_fitType (F : Nat) (ρ52 : api_Type → Int → Option Bool) (hρ52 : ∀ a0 a1 r, ρ52 a0 a1 = some r → RunF Tryz.prog T.T 52 [.agg (c26 a0), .sc (.int .i64 a1)] (.sc (.bool r))) (a0 : api_Type) (a1 : Int) (r : Bool) (h : R04_fitType_B F ρ52 a0 a1 = some r) : RunF Tryz.prog T.T 52 [.agg (c26 a0), .sc (.int .i64 a1)] (.sc (.bool r)) := by
  rw [R04_fitType_B] at h
  refine RunF.z Tryz.func52 rfl rfl rfl rfl rfl (fun C hr => ?_)
  refine Stk.gen (fun t H n => t 0 = .agg (c26 a0) ∧ t 1 = .sc (.int .i64 a1)) ⟨by simp, by simp⟩ ?_
  rintro t H n ⟨f0, f1⟩
  refine evY_sound (f := 2) ?_; simp [-splice, f0, f1]
  refine Stk.gen (fun t H n => t 0 = .agg (c26 a0) ∧ t 1 = .sc (.int .i64 a1)) (by and_intros <;> first | assumption | simp [-splice, f0, f1]) ?_
  clear f0 f1
  rintro t H n ⟨f0, f1⟩
  refine Stk.om (mop_box T.t26 (cs := c26 a0) (by show partOk (t 0) = true; rw [f0]; rfl) (by show cellsOf (t 0) = _; rw [f0]; rfl)) (by simp [f0, f1]) rfl (fun t' ht' => ?_)
  refine Stk.gen (fun t H n => ∃ b1, t 1 = .sc (.int .i64 a1) ∧ t 2 = .own b1 0 ∧ H b1 = some (.cells (c26 a0) 26) ∧ b1 < n) ⟨n, by simp [ht', f1], by simp [ht'], upd_same _ _ _, Nat.lt_succ_self _⟩ ?_
  clear f0 f1 ht' t'
  rintro t H n ⟨b1, f1, f2, b_b1, l_b1⟩
  refine evY_sound (f := 8) ?_; simp [-splice, f1, f2, b_b1]
  refine Stk.cond (decide (a1 < 1)) (by simp [-splice, f1, f2, b_b1]) (fun hb2 => ?_) (fun hb2 => ?_)
  ·have h := cT hb2 h
   refine evY_sound (f := 5) ?_; simp [-splice, f1, f2, b_b1]
   have hq := Option.some.inj h; subst hq
   exact (hr _ _ _ (.sc (.bool false)) ([]) (by simp [-splice, f1, f2, b_b1]) (.inr (.inr (.free (rfl))))).1
  ·have h := cF hb2 h
   refine evY_sound (f := 14) ?_; simp [-splice, f1, f2, b_b1, ld_26_0_3]
   obtain ⟨K1, hK1, h⟩ := jnd h
   refine Stk.jn (fun t H n => ∃ v3 : Bool, K1 v3 = some r ∧ t 1 = .sc (.int .i64 a1) ∧ t 2 = .own b1 0 ∧ t 9 = .sc (.int .i64 a0.Kind) ∧ t 10 = .sc (.bool v3) ∧ H b1 = some (.cells (c26 a0) 26) ∧ b1 < n) trivial (fun J1 hJ1 => ?_) ?_
   · skip
     refine Stk.cond (a0.Kind == 0) (by simp [-splice, f1, f2, b_b1, ld_26_0_3]) (fun hb4 => ?_) (fun hb4 => ?_)
     ·have h := cT hb4 h
      refine evY_sound (f := 1) ?_; simp [-splice, f1, f2, b_b1, ld_26_0_3]
      exact Stk.ln 0 (by decide) (hJ1 _ _ _ ⟨(a0.Kind == 0), h, by and_intros <;> first | assumption | simp [-splice, f1, f2, b_b1, ld_26_0_3]⟩)
     ·have h := cF hb4 h
      refine evY_sound (f := 4) ?_; simp [-splice, f1, f2, b_b1, ld_26_0_3]
      exact Stk.ln 0 (by decide) (hJ1 _ _ _ ⟨(a0.Kind == 1), h, by and_intros <;> first | assumption | simp [-splice, f1, f2, b_b1, ld_26_0_3]⟩)
   clear h f1 f2 b_b1 l_b1
   rintro t H n ⟨v3, h, f1, f2, f9, f10, b_b1, l_b1⟩
   subst hK1
   refine Stk.cond v3 (by simp [-splice, f1, f2, f9, f10, b_b1]) (fun hb5 => ?_) (fun hb5 => ?_)
   ·have h := cT hb5 h
    refine evY_sound (f := 6) ?_; simp [-splice, f1, f2, f9, f10, b_b1, ld_26_1_9]
    refine Stk.gd 5 16 21 (fun z => .sc (.bool (z && ((a0.Parts.length : Int) == 0)))) (w := (a0.Name.toList == (⟨#[]⟩ : ByteArray).toList)) (by simp [-splice, f1, f2, f9, f10, b_b1, ld_26_1_9]) (by simp [-splice, f1, f2, f9, f10, b_b1, ld_26_1_9, ld_26_2_24]) (by simp [-splice, f1, f2, f9, f10, b_b1, ld_26_1_9, ld_26_2_24]) ?_; simp [-splice, f1, f2, f9, f10, b_b1, ld_26_1_9]
    refine evY_sound (f := 3) ?_; simp [-splice, f1, f2, f9, f10, b_b1, ld_26_1_9]
    have hq := Option.some.inj h; subst hq
    exact (hr _ _ _ (.sc (.bool ((a0.Name.toList == (⟨#[]⟩ : ByteArray).toList) && ((a0.Parts.length : Int) == 0)))) ([]) (by simp [-splice, f1, f2, f9, f10, b_b1, ld_26_1_9]) (.inr (.inr (.free (rfl))))).1
   ·have h := cF hb5 h
    refine evY_sound (f := 5) ?_; simp [-splice, f1, f2, f9, f10, b_b1]
    refine Stk.cond (a0.Kind == 2) (by simp [-splice, f1, f2, f9, f10, b_b1]) (fun hb6 => ?_) (fun hb6 => ?_)
    ·have h := cT hb6 h
     obtain ⟨x7, hx7, h⟩ := bnd h
     refine evY_sound (f := 4) ?_; simp [-splice, f1, f2, f9, f10, b_b1, ld_26_1_9]
     refine Stk.cv (g := 113) (args := [.sc (.string a0.Name)]) (args' := [.sc (.string a0.Name)]) (v := .sc (.bool x7)) [] (ok_R04_Small F _ _ hx7) (by simp [-splice, f1, f2, f9, f10, b_b1, ld_26_1_9]) rfl rfl (by simp [-splice, f1, f2, f9, f10, b_b1, ld_26_1_9]) (.cons (.free (rfl)) (.nil)) (.inl ⟨rfl, rfl⟩) (fun t' ht' => ?_)
     subst ht'
     refine evY_sound (f := 1) ?_; simp [-splice, f1, f2, f9, f10, b_b1, ld_26_1_9]
     refine Stk.gd 5 27 32 (fun z => .sc (.bool (z && ((a0.Parts.length : Int) == 0)))) (w := x7) (by simp [-splice, f1, f2, f9, f10, b_b1, ld_26_1_9]) (by simp [-splice, f1, f2, f9, f10, b_b1, ld_26_1_9, ld_26_2_24]) (by simp [-splice, f1, f2, f9, f10, b_b1, ld_26_1_9, ld_26_2_24]) ?_; simp [-splice, f1, f2, f9, f10, b_b1, ld_26_1_9]
     refine evY_sound (f := 3) ?_; simp [-splice, f1, f2, f9, f10, b_b1, ld_26_1_9]
     have hq := Option.some.inj h; subst hq
     exact (hr _ _ _ (.sc (.bool (x7 && ((a0.Parts.length : Int) == 0)))) ([]) (by simp [-splice, f1, f2, f9, f10, b_b1, ld_26_1_9]) (.inr (.inr (.free (rfl))))).1
    ·have h := cF hb6 h
     refine evY_sound (f := 5) ?_; simp [-splice, f1, f2, f9, f10, b_b1]
     refine Stk.cond (a0.Kind == 3) (by simp [-splice, f1, f2, f9, f10, b_b1]) (fun hb8 => ?_) (fun hb8 => ?_)
     ·have h := cT hb8 h
      refine evY_sound (f := 7) ?_; simp [-splice, f1, f2, f9, f10, b_b1, ld_26_1_9]
      refine Stk.gd 5 38 43 (fun z => .sc (.bool (z || (decide ((a0.Parts.length : Int) < 2))))) (w := (!(a0.Name.toList == (⟨#[]⟩ : ByteArray).toList))) (by simp [-splice, f1, f2, f9, f10, b_b1, ld_26_1_9]) (by simp [-splice, f1, f2, f9, f10, b_b1, ld_26_1_9, ld_26_2_24]) (by simp [-splice, f1, f2, f9, f10, b_b1, ld_26_1_9, ld_26_2_24]) ?_; simp [-splice, f1, f2, f9, f10, b_b1, ld_26_1_9]
      refine evY_sound (f := 1) ?_; simp [-splice, f1, f2, f9, f10, b_b1, ld_26_1_9]
      refine Stk.gd 5 44 49 (fun z => .sc (.bool (z || (decide (6 < (a0.Parts.length : Int)))))) (w := ((!(a0.Name.toList == (⟨#[]⟩ : ByteArray).toList)) || (decide ((a0.Parts.length : Int) < 2)))) (by simp [-splice, f1, f2, f9, f10, b_b1, ld_26_1_9]) (by simp [-splice, f1, f2, f9, f10, b_b1, ld_26_1_9, ld_26_2_24]) (by simp [-splice, f1, f2, f9, f10, b_b1, ld_26_1_9, ld_26_2_24]) ?_; simp [-splice, f1, f2, f9, f10, b_b1, ld_26_1_9]
      refine evY_sound (f := 1) ?_; simp [-splice, f1, f2, f9, f10, b_b1, ld_26_1_9]
      refine Stk.cond (((!(a0.Name.toList == (⟨#[]⟩ : ByteArray).toList)) || (decide ((a0.Parts.length : Int) < 2))) || (decide (6 < (a0.Parts.length : Int)))) (by simp [-splice, f1, f2, f9, f10, b_b1, ld_26_1_9]) (fun hb9 => ?_) (fun hb9 => ?_)
      ·have h := cT hb9 h
       refine evY_sound (f := 5) ?_; simp [-splice, f1, f2, f9, f10, b_b1, ld_26_1_9]
       have hq := Option.some.inj h; subst hq
       exact (hr _ _ _ (.sc (.bool false)) ([]) (by simp [-splice, f1, f2, f9, f10, b_b1, ld_26_1_9]) (.inr (.inr (.free (rfl))))).1
      ·have h := cF hb9 h
       refine evY_sound (f := 7) ?_; simp [-splice, f1, f2, f9, f10, b_b1, ld_26_1_9]
       refine Stk.gen (fun t H n => t 1 = .sc (.int .i64 a1) ∧ t 2 = .own b1 0 ∧ t 5 = .sc (.int .i64 0) ∧ H b1 = some (.cells (c26 a0) 26) ∧ b1 < n) (by and_intros <;> first | assumption | simp [-splice, f1, f2, f9, f10, b_b1, ld_26_1_9]) ?_
       clear f1 f2 f9 f10 b_b1 l_b1
       rintro t H n ⟨f1, f2, f5, b_b1, l_b1⟩
       refine Stk.lo (fun μ t H n => ∃ v10 : Int, R04_fitType_L0 F ρ52 a0 a1 μ v10 = some r ∧ t 1 = .sc (.int .i64 a1) ∧ t 2 = .own b1 0 ∧ t 5 = .sc (.int .i64 v10) ∧ H b1 = some (.cells (c26 a0) 26) ∧ b1 < n) F ⟨0, h, f1, f2, f5, b_b1, l_b1⟩ ?_
       clear h f1 f2 f5 b_b1 l_b1
       rintro J2 hJ2 μ t H n ⟨v10, h, f1, f2, f5, b_b1, l_b1⟩
       cases μ with
       | zero => exact absurd h (by simp [R04_fitType_L0])
       | succ μ =>
       rw [R04_fitType_L0] at h
       refine evY_sound (f := 9) ?_; simp [-splice, f1, f2, f5, b_b1, ld_26_2_24]
       refine Stk.cond (decide (v10 < (a0.Parts.length : Int))) (by simp [-splice, f1, f2, f5, b_b1, ld_26_2_24]) (fun hb12 => ?_) (fun hb12 => ?_)
       ·have h := cT hb12 h
        obtain ⟨x13, hx13, h⟩ := bnd h
        obtain ⟨i0x13, i1x13, i2x13, _⟩ := idx_ok hx13
        have ex13_0_26 : partOf T.T 26 (encs c26 a0.Parts) (v10.toNat * 3) = some (.agg (c26 x13)) := by
            have e0 := part_elem0 (e := c26) (z := 3) (T := T.T) (ty := 26) T.t26 (by decide) (by decide) hx13 0 (by decide)
            (try simp only [Nat.mul_one, Nat.add_zero] at e0)
            exact e0.trans (ld_26_0_26 _)
        obtain ⟨x14, hx14, h⟩ := bnd h
        refine evY_sound (f := 12) ?_; simp [-splice, f1, f2, f5, b_b1, ld_26_2_24, i0x13, i1x13, pd26, ex13_0_26]
        refine Stk.cv (g := 52) (args := [.agg (c26 x13), .sc (.int .i64 (IntKind.i64.wrap (a1 - 1)))]) (args' := [.agg (c26 x13), .sc (.int .i64 (IntKind.i64.wrap (a1 - 1)))]) (v := .sc (.bool x14)) [] (hρ52 _ _ _ hx14) (by simp [-splice, f1, f2, f5, b_b1, ld_26_2_24, i0x13, i1x13, pd26, ex13_0_26]) rfl rfl (by simp [-splice, f1, f2, f5, b_b1, ld_26_2_24, i0x13, i1x13, pd26, ex13_0_26]) (.cons (.free (fr26 _)) (.cons (.free (rfl)) (.nil))) (.inl ⟨rfl, rfl⟩) (fun t' ht' => ?_)
        subst ht'
        refine evY_sound (f := 2) ?_; simp [-splice, f1, f2, f5, b_b1, ld_26_2_24, i0x13, i1x13, pd26, ex13_0_26]
        refine Stk.cond (!x14) (by simp [-splice, f1, f2, f5, b_b1, ld_26_2_24, i0x13, i1x13, pd26, ex13_0_26]) (fun hb15 => ?_) (fun hb15 => ?_)
        ·have h := cT hb15 h
         refine evY_sound (f := 5) ?_; simp [-splice, f1, f2, f5, b_b1, ld_26_2_24, i0x13, i1x13, pd26, ex13_0_26]
         have hq := Option.some.inj h; subst hq
         exact (hr _ _ _ (.sc (.bool false)) ([]) (by simp [-splice, f1, f2, f5, b_b1, ld_26_2_24, i0x13, i1x13, pd26, ex13_0_26]) (.inr (.inr (.free (rfl))))).1
        ·have h := cF hb15 h
         refine evY_sound (f := 7) ?_; simp [-splice, f1, f2, f5, b_b1, ld_26_2_24, i0x13, i1x13, pd26, ex13_0_26]
         exact Stk.ln μ (Nat.lt_succ_self _) (hJ2 _ _ _ _ ⟨(IntKind.i64.wrap (v10 + 1)), h, by and_intros <;> first | assumption | simp [-splice, f1, f2, f5, b_b1, ld_26_2_24, i0x13, i1x13, pd26, ex13_0_26]⟩)
       ·have h := cF hb12 h
        refine Stk.ex rfl ?_
        refine evY_sound (f := 5) ?_; simp [-splice, f1, f2, f5, b_b1, ld_26_2_24]
        have hq := Option.some.inj h; subst hq
        exact (hr _ _ _ (.sc (.bool true)) ([]) (by simp [-splice, f1, f2, f5, b_b1, ld_26_2_24]) (.inr (.inr (.free (rfl))))).1
     ·have h := cF hb8 h
      refine evY_sound (f := 7) ?_; simp [-splice, f1, f2, f9, f10, b_b1]
      have hq := Option.some.inj h; subst hq
      exact (hr _ _ _ (.sc (.bool false)) ([]) (by simp [-splice, f1, f2, f9, f10, b_b1]) (.inr (.inr (.free (rfl))))).1
theorem okG_R04_fitType : ∀ F : Nat, (∀ (a0 : api_Type) (a1 : Int) (r : Bool), R04_fitType F a0 a1 = some r → RunF Tryz.prog T.T 52 [.agg (c26 a0), .sc (.int .i64 a1)] (.sc (.bool r)))
  | 0 => (fun a0 a1 r h => by rw [R04_fitType] at h; cases h)
  | F + 1 => (fun a0 a1 r h => okB_R04_fitType F (R04_fitType F) (okG_R04_fitType F) a0 a1 r (by rw [R04_fitType] at h; exact h))
theorem ok_R04_fitType (F : Nat) (a0 : api_Type) (a1 : Int) (r : Bool) (h : R04_fitType F a0 a1 = some r) : RunF Tryz.prog T.T 52 [.agg (c26 a0), .sc (.int .i64 a1)] (.sc (.bool r)) := (okG_R04_fitType F) a0 a1 r h
theorem ok_R04_FitType (F : Nat) (a0 : api_Type) (r : Bool) (h : R04_FitType F a0 = some r) : RunF Tryz.prog T.T 19 [.agg (c26 a0)] (.sc (.bool r)) := by
  rw [R04_FitType] at h
  refine RunF.z Tryz.func19 rfl rfl rfl rfl rfl (fun C hr => ?_)
  refine Stk.gen (fun t H n => t 0 = .agg (c26 a0)) (by simp) ?_
  rintro t H n f0
  refine evY_sound (f := 2) ?_; simp [-splice, f0]
  refine Stk.gen (fun t H n => t 0 = .agg (c26 a0)) (by simp [-splice, f0]) ?_
  clear f0
  rintro t H n f0
  refine Stk.om (mop_box T.t26 (cs := c26 a0) (by show partOk (t 0) = true; rw [f0]; rfl) (by show cellsOf (t 0) = _; rw [f0]; rfl)) (by simp [f0]) rfl (fun t' ht' => ?_)
  refine Stk.gen (fun t H n => ∃ b1, t 1 = .own b1 0 ∧ H b1 = some (.cells (c26 a0) 26) ∧ b1 < n) ⟨n, by simp [ht'], upd_same _ _ _, Nat.lt_succ_self _⟩ ?_
  clear f0 ht' t'
  rintro t H n ⟨b1, f1, b_b1, l_b1⟩
  obtain ⟨x2, hx2, h⟩ := bnd h
  refine evY_sound (f := 5) ?_; simp [-splice, f1, b_b1, ld_26_0_26]
  refine Stk.cv (g := 52) (args := [.agg (c26 a0), .sc (.int .i64 64)]) (args' := [.agg (c26 a0), .sc (.int .i64 64)]) (v := .sc (.bool x2)) [] (ok_R04_fitType F _ _ _ hx2) (by simp [-splice, f1, b_b1, ld_26_0_26]) rfl rfl (by simp [-splice, f1, b_b1, ld_26_0_26]) (.cons (.free (fr26 _)) (.cons (.free (rfl)) (.nil))) (.inl ⟨rfl, rfl⟩) (fun t' ht' => ?_)
  subst ht'
  refine evY_sound (f := 3) ?_; simp [-splice, f1, b_b1, ld_26_0_26]
  have hq := Option.some.inj h; subst hq
  exact (hr _ _ _ (.sc (.bool x2)) ([]) (by simp [-splice, f1, b_b1, ld_26_0_26]) (.inr (.inr (.free (rfl))))).1
theorem ok_R04_number (F : Nat) (a0 : Int) (r : Bool) (h : R04_number F a0 = some r) : RunF Tryz.prog T.T 128 [.sc (.int .i64 a0)] (.sc (.bool r)) := by
  rw [R04_number] at h
  refine RunF.z Tryz.func128 rfl rfl rfl rfl rfl (fun C hr => ?_)
  refine Stk.gen (fun t H n => t 0 = .sc (.int .i64 a0)) (by simp) ?_
  rintro t H n f0
  refine evY_sound (f := 9) ?_; simp [-splice, f0]
  refine Stk.gd 3 5 8 (fun z => .sc (.bool (z && (decide (a0 ≤ 4611686018427387903))))) (w := decide ((-4611686018427387903) ≤ a0)) (by simp [-splice, f0]) (by simp [-splice, f0]) (by simp [-splice, f0]) ?_; simp [-splice, f0]
  refine evY_sound (f := 3) ?_; simp [-splice, f0]
  have hq := Option.some.inj h; subst hq
  exact (hr _ _ _ (.sc (.bool ((decide ((-4611686018427387903) ≤ a0)) && (decide (a0 ≤ 4611686018427387903))))) ([]) (by simp [-splice, f0]) (.inr (.inr (.free (rfl))))).1
end Go.Proofs.YtappiofmkoelnaaGreatDoor.M
end
section
namespace Go.Proofs.YtappiofmkoelnaaGreatDoor.M
open Go.Proofs.YtappiofmkoelnaaGreatDoorW.Ah Go.Proofs.YtappiofmkoelnaaGreatDoor
set_option linter.unusedVariables false
set_option linter.unusedSimpArgs false
set_option maxRecDepth 8000
attribute [local simp] T.t2 T.t3 T.t4 T.t9 T.t29 T.t30 T.t31 T.t33 T.t37 T.t39 T.t68 List.range List.range.loop
attribute [-simp] appendAV fillAV
theorem ok_R04_Called (F : Nat) (a0 : ByteArray) (r : Bool) (h : R04_Called F a0 = some r) : RunF Tryz.prog T.T 114 [.sc (.string a0)] (.sc (.bool r)) := by
  rw [R04_Called] at h
  refine RunF.z Tryz.func114 rfl rfl rfl rfl rfl (fun C hr => ?_)
  refine Stk.gen (fun t H n => t 0 = .sc (.string a0)) (by simp) ?_
  rintro t H n f0
  obtain ⟨x1, hx1, h⟩ := bnd h
  refine evY_sound (f := 7) ?_; simp [-splice, f0]
  refine Stk.cv (g := 113) (args := [.sc (.string a0)]) (args' := [.sc (.string a0)]) (v := .sc (.bool x1)) [] (ok_R04_Small F _ _ hx1) (by simp [-splice, f0]) rfl rfl (by simp [-splice, f0]) (.cons (.free (rfl)) (.nil)) (.inl ⟨rfl, rfl⟩) (fun t' ht' => ?_)
  subst ht'
  refine evY_sound (f := 1) ?_; simp [-splice, f0]
  refine Stk.gd 3 5 8 (fun z => .sc (.bool (z && (!(a0.toList == (⟨#[108, 101, 110]⟩ : ByteArray).toList))))) (w := x1) (by simp [-splice, f0]) (by simp [-splice, f0]) (by simp [-splice, f0]) ?_; simp [-splice, f0]
  refine evY_sound (f := 1) ?_; simp [-splice, f0]
  refine Stk.gd 3 9 12 (fun z => .sc (.bool (z && (!(a0.toList == (⟨#[97, 116]⟩ : ByteArray).toList))))) (w := (x1 && (!(a0.toList == (⟨#[108, 101, 110]⟩ : ByteArray).toList)))) (by simp [-splice, f0]) (by simp [-splice, f0]) (by simp [-splice, f0]) ?_; simp [-splice, f0]
  refine evY_sound (f := 1) ?_; simp [-splice, f0]
  refine Stk.gd 3 13 16 (fun z => .sc (.bool (z && (!(a0.toList == (⟨#[99, 97, 116]⟩ : ByteArray).toList))))) (w := ((x1 && (!(a0.toList == (⟨#[108, 101, 110]⟩ : ByteArray).toList))) && (!(a0.toList == (⟨#[97, 116]⟩ : ByteArray).toList)))) (by simp [-splice, f0]) (by simp [-splice, f0]) (by simp [-splice, f0]) ?_; simp [-splice, f0]
  refine evY_sound (f := 1) ?_; simp [-splice, f0]
  refine Stk.gd 3 17 20 (fun z => .sc (.bool (z && (!(a0.toList == (⟨#[99, 117, 116]⟩ : ByteArray).toList))))) (w := (((x1 && (!(a0.toList == (⟨#[108, 101, 110]⟩ : ByteArray).toList))) && (!(a0.toList == (⟨#[97, 116]⟩ : ByteArray).toList))) && (!(a0.toList == (⟨#[99, 97, 116]⟩ : ByteArray).toList)))) (by simp [-splice, f0]) (by simp [-splice, f0]) (by simp [-splice, f0]) ?_; simp [-splice, f0]
  refine evY_sound (f := 3) ?_; simp [-splice, f0]
  have hq := Option.some.inj h; subst hq
  exact (hr _ _ _ (.sc (.bool ((((x1 && (!(a0.toList == (⟨#[108, 101, 110]⟩ : ByteArray).toList))) && (!(a0.toList == (⟨#[97, 116]⟩ : ByteArray).toList))) && (!(a0.toList == (⟨#[99, 97, 116]⟩ : ByteArray).toList))) && (!(a0.toList == (⟨#[99, 117, 116]⟩ : ByteArray).toList))))) ([]) (by simp [-splice, f0]) (.inr (.inr (.free (rfl))))).1
theorem ok_R04_Args (F : Nat) (a0 : Int) (r : Int) (h : R04_Args F a0 = some r) : RunF Tryz.prog T.T 181 [.sc (.int .i64 a0)] (.sc (.int .i64 r)) := by
  rw [R04_Args] at h
  refine RunF.z Tryz.func181 rfl rfl rfl rfl rfl (fun C hr => ?_)
  refine Stk.gen (fun t H n => t 0 = .sc (.int .i64 a0)) (by simp) ?_
  rintro t H n f0
  refine evY_sound (f := 15) ?_; simp [-splice, f0]
  refine Stk.cond (a0 == 8) (by simp [-splice, f0]) (fun hb1 => ?_) (fun hb1 => ?_)
  ·have h := cT hb1 h
   refine evY_sound (f := 5) ?_; simp [-splice, f0]
   have hq := Option.some.inj h; subst hq
   exact (hr _ _ _ (.sc (.int .i64 1)) ([]) (by simp [-splice, f0]) (.inr (.inr (.free (rfl))))).1
  ·have h := cF hb1 h
   refine evY_sound (f := 5) ?_; simp [-splice, f0]
   refine Stk.cond (a0 == 11) (by simp [-splice, f0]) (fun hb2 => ?_) (fun hb2 => ?_)
   ·have h := cT hb2 h
    refine evY_sound (f := 5) ?_; simp [-splice, f0]
    have hq := Option.some.inj h; subst hq
    exact (hr _ _ _ (.sc (.int .i64 3)) ([]) (by simp [-splice, f0]) (.inr (.inr (.free (rfl))))).1
   ·have h := cF hb2 h
    refine evY_sound (f := 7) ?_; simp [-splice, f0]
    have hq := Option.some.inj h; subst hq
    exact (hr _ _ _ (.sc (.int .i64 2)) ([]) (by simp [-splice, f0]) (.inr (.inr (.free (rfl))))).1
theorem ok_R04_alone (F : Nat) (a0 : api_Expr) (r : Bool) (h : R04_alone F a0 = some r) : RunF Tryz.prog T.T 124 [.agg (c33 a0)] (.sc (.bool r)) := by
  rw [R04_alone] at h
  refine RunF.z Tryz.func124 rfl rfl rfl rfl rfl (fun C hr => ?_)
  refine Stk.gen (fun t H n => t 0 = .agg (c33 a0)) (by simp) ?_
  rintro t H n f0
  refine evY_sound (f := 2) ?_; simp [-splice, f0]
  refine Stk.gen (fun t H n => t 0 = .agg (c33 a0)) (by simp [-splice, f0]) ?_
  clear f0
  rintro t H n f0
  refine Stk.om (mop_box T.t33 (cs := c33 a0) (by show partOk (t 0) = true; rw [f0]; rfl) (by show cellsOf (t 0) = _; rw [f0]; rfl)) (by simp [f0]) rfl (fun t' ht' => ?_)
  refine Stk.gen (fun t H n => ∃ b1, t 1 = .own b1 0 ∧ H b1 = some (.cells (c33 a0) 33) ∧ b1 < n) ⟨n, by simp [ht'], upd_same _ _ _, Nat.lt_succ_self _⟩ ?_
  clear f0 ht' t'
  rintro t H n ⟨b1, f1, b_b1, l_b1⟩
  refine evY_sound (f := 15) ?_; simp [-splice, f1, b_b1, ld_33_6_30, ld_33_3_2]
  refine Stk.gd 5 11 16 (fun z => .sc (.bool (z && ((a0.Bytes.length : Int) == 0)))) (w := (a0.Num == 0)) (by simp [-splice, f1, b_b1, ld_33_6_30, ld_33_3_2]) (by simp [-splice, f1, b_b1, ld_33_6_30, ld_33_3_2, ld_33_4_29]) (by simp [-splice, f1, b_b1, ld_33_6_30, ld_33_3_2, ld_33_4_29]) ?_; simp [-splice, f1, b_b1, ld_33_6_30, ld_33_3_2]
  refine evY_sound (f := 9) ?_; simp [-splice, f1, b_b1, ld_33_6_30, ld_33_3_2, ld_33_0_3]
  refine Stk.gd 5 20 25 (fun z => .sc (.bool (z && (decide (0 < (a0.Arms.length : Int)))))) (w := (a0.Kind != 8)) (by simp [-splice, f1, b_b1, ld_33_6_30, ld_33_3_2, ld_33_0_3]) (by simp [-splice, f1, b_b1, ld_33_6_30, ld_33_3_2, ld_33_0_3, ld_33_7_31]) (by simp [-splice, f1, b_b1, ld_33_6_30, ld_33_3_2, ld_33_0_3, ld_33_7_31]) ?_; simp [-splice, f1, b_b1, ld_33_6_30, ld_33_3_2, ld_33_0_3]
  refine evY_sound (f := 1) ?_; simp [-splice, f1, b_b1, ld_33_6_30, ld_33_3_2, ld_33_0_3]
  refine Stk.gen (fun t H n => t 1 = .own b1 0 ∧ t 3 = .sc (.int .i64 (a0.Kids.length : Int)) ∧ t 4 = .sc (.bool ((a0.Num == 0) && ((a0.Bytes.length : Int) == 0))) ∧ t 26 = .sc (.bool ((a0.Kind != 8) && (decide (0 < (a0.Arms.length : Int))))) ∧ H b1 = some (.cells (c33 a0) 33) ∧ b1 < n) (by and_intros <;> first | assumption | simp [-splice, f1, b_b1, ld_33_6_30, ld_33_3_2, ld_33_0_3]) ?_
  clear f1 b_b1 l_b1
  rintro t H n ⟨f1, f3, f4, f26, b_b1, l_b1⟩
  refine Stk.jo 10 (fun t H n => t 1 = .own b1 0 ∧ t 3 = .sc (.int .i64 (a0.Kids.length : Int)) ∧ t 4 = .sc (.bool ((a0.Num == 0) && ((a0.Bytes.length : Int) == 0))) ∧ t 36 = .sc (.bool (((a0.Kind != 8) && (decide (0 < (a0.Arms.length : Int)))) || ((a0.Kind != 1) && (decide (0 < (a0.Bytes.length : Int)))))) ∧ H b1 = some (.cells (c33 a0) 33) ∧ b1 < n) (fun J1 hJ1 => ?_) ?_
  · rcases Bool.eq_false_or_eq_true ((a0.Kind != 8) && (decide (0 < (a0.Arms.length : Int)))) with hb1 | hb1
    · rw [hb1] at f26
      refine evY_sound (f := 11) ?_; simp [-splice, f1, f3, f4, f26, b_b1]
      refine Stk.gen (fun t H n => t 1 = .own b1 0 ∧ t 3 = .sc (.int .i64 (a0.Kids.length : Int)) ∧ t 4 = .sc (.bool ((a0.Num == 0) && ((a0.Bytes.length : Int) == 0))) ∧ t 36 = .sc (.bool true) ∧ H b1 = some (.cells (c33 a0) 33) ∧ b1 < n) (by and_intros <;> first | assumption | simp [-splice, f1, f3, f4, f26, b_b1]) ?_
      clear f1 f3 f4 f26 b_b1 l_b1
      rintro t H n ⟨f1, f3, f4, f36, b_b1, l_b1⟩
      exact Stk.ln 0 (by decide) (hJ1 _ _ _ ⟨f1, f3, f4, f36.trans (congrArg (fun q => AV.sc (.bool q)) (by rw [hb1]; rfl)), b_b1, l_b1⟩)
    · rw [hb1] at f26
      refine evY_sound (f := 4) ?_; simp [-splice, f1, f3, f4, f26, b_b1, ld_33_0_3]
      refine Stk.gen (fun t H n => t 1 = .own b1 0 ∧ t 3 = .sc (.int .i64 (a0.Kids.length : Int)) ∧ t 4 = .sc (.bool ((a0.Num == 0) && ((a0.Bytes.length : Int) == 0))) ∧ t 26 = .sc (.bool false) ∧ t 30 = .sc (.bool (a0.Kind != 1)) ∧ H b1 = some (.cells (c33 a0) 33) ∧ b1 < n) (by and_intros <;> first | assumption | simp [-splice, f1, f3, f4, f26, b_b1, ld_33_0_3]) ?_
      clear f1 f3 f4 f26 b_b1 l_b1
      rintro t H n ⟨f1, f3, f4, f26, f30, b_b1, l_b1⟩
      refine Stk.jo 5 (fun t H n => t 1 = .own b1 0 ∧ t 3 = .sc (.int .i64 (a0.Kids.length : Int)) ∧ t 4 = .sc (.bool ((a0.Num == 0) && ((a0.Bytes.length : Int) == 0))) ∧ t 26 = .sc (.bool false) ∧ t 35 = .sc (.bool ((a0.Kind != 1) && (decide (0 < (a0.Bytes.length : Int))))) ∧ H b1 = some (.cells (c33 a0) 33) ∧ b1 < n) (fun J2 hJ2 => ?_) ?_
      · rcases Bool.eq_false_or_eq_true (a0.Kind != 1) with hb2 | hb2
        · rw [hb2] at f30
          refine evY_sound (f := 6) ?_; simp [-splice, f1, f3, f4, f26, f30, b_b1, ld_33_4_29]
          refine Stk.gen (fun t H n => t 1 = .own b1 0 ∧ t 3 = .sc (.int .i64 (a0.Kids.length : Int)) ∧ t 4 = .sc (.bool ((a0.Num == 0) && ((a0.Bytes.length : Int) == 0))) ∧ t 26 = .sc (.bool false) ∧ t 35 = .sc (.bool (decide (0 < (a0.Bytes.length : Int)))) ∧ H b1 = some (.cells (c33 a0) 33) ∧ b1 < n) (by and_intros <;> first | assumption | simp [-splice, f1, f3, f4, f26, f30, b_b1, ld_33_4_29]) ?_
          clear f1 f3 f4 f26 f30 b_b1 l_b1
          rintro t H n ⟨f1, f3, f4, f26, f35, b_b1, l_b1⟩
          exact Stk.ln 0 (by decide) (hJ2 _ _ _ ⟨f1, f3, f4, f26, f35.trans (congrArg (fun q => AV.sc (.bool q)) (by rw [hb2]; rfl)), b_b1, l_b1⟩)
        · rw [hb2] at f30
          refine evY_sound (f := 6) ?_; simp [-splice, f1, f3, f4, f26, f30, b_b1]
          refine Stk.gen (fun t H n => t 1 = .own b1 0 ∧ t 3 = .sc (.int .i64 (a0.Kids.length : Int)) ∧ t 4 = .sc (.bool ((a0.Num == 0) && ((a0.Bytes.length : Int) == 0))) ∧ t 26 = .sc (.bool false) ∧ t 35 = .sc (.bool false) ∧ H b1 = some (.cells (c33 a0) 33) ∧ b1 < n) (by and_intros <;> first | assumption | simp [-splice, f1, f3, f4, f26, f30, b_b1]) ?_
          clear f1 f3 f4 f26 f30 b_b1 l_b1
          rintro t H n ⟨f1, f3, f4, f26, f35, b_b1, l_b1⟩
          exact Stk.ln 0 (by decide) (hJ2 _ _ _ ⟨f1, f3, f4, f26, f35.trans (congrArg (fun q => AV.sc (.bool q)) (by rw [hb2]; rfl)), b_b1, l_b1⟩)
      clear f1 f3 f4 f26 f30 b_b1 l_b1
      rintro t H n ⟨f1, f3, f4, f26, f35, b_b1, l_b1⟩
      refine evY_sound (f := 2) ?_; simp [-splice, f1, f3, f4, f26, f35, b_b1]
      refine Stk.gen (fun t H n => t 1 = .own b1 0 ∧ t 3 = .sc (.int .i64 (a0.Kids.length : Int)) ∧ t 4 = .sc (.bool ((a0.Num == 0) && ((a0.Bytes.length : Int) == 0))) ∧ t 36 = .sc (.bool ((a0.Kind != 1) && (decide (0 < (a0.Bytes.length : Int))))) ∧ H b1 = some (.cells (c33 a0) 33) ∧ b1 < n) (by and_intros <;> first | assumption | simp [-splice, f1, f3, f4, f26, f35, b_b1]) ?_
      clear f1 f3 f4 f26 f35 b_b1 l_b1
      rintro t H n ⟨f1, f3, f4, f36, b_b1, l_b1⟩
      exact Stk.ln 0 (by decide) (hJ1 _ _ _ ⟨f1, f3, f4, f36.trans (congrArg (fun q => AV.sc (.bool q)) (by rw [hb1]; rfl)), b_b1, l_b1⟩)
  clear f1 f3 f4 f26 b_b1 l_b1
  rintro t H n ⟨f1, f3, f4, f36, b_b1, l_b1⟩
  refine evY_sound (f := 1) ?_; simp [-splice, f1, f3, f4, f36, b_b1]
  refine Stk.cond (((a0.Kind != 8) && (decide (0 < (a0.Arms.length : Int)))) || ((a0.Kind != 1) && (decide (0 < (a0.Bytes.length : Int))))) (by simp [-splice, f1, f3, f4, f36, b_b1]) (fun hb2 => ?_) (fun hb2 => ?_)
  ·have h := cT hb2 h
   refine evY_sound (f := 5) ?_; simp [-splice, f1, f3, f4, f36, b_b1]
   have hq := Option.some.inj h; subst hq
   exact (hr _ _ _ (.sc (.bool false)) ([]) (by simp [-splice, f1, f3, f4, f36, b_b1]) (.inr (.inr (.free (rfl))))).1
  ·have h := cF hb2 h
   refine evY_sound (f := 13) ?_; simp [-splice, f1, f3, f4, f36, b_b1, ld_33_0_3]
   refine Stk.cond (a0.Kind == 0) (by simp [-splice, f1, f3, f4, f36, b_b1, ld_33_0_3]) (fun hb3 => ?_) (fun hb3 => ?_)
   ·have h := cT hb3 h
    refine evY_sound (f := 6) ?_; simp [-splice, f1, f3, f4, f36, b_b1, ld_33_0_3, ld_33_5_9]
    refine Stk.gd 3 44 47 (fun z => .sc (.bool (z && ((a0.Kids.length : Int) == 0)))) (w := (a0.Name.toList == (⟨#[]⟩ : ByteArray).toList)) (by simp [-splice, f1, f3, f4, f36, b_b1, ld_33_0_3, ld_33_5_9]) (by simp [-splice, f1, f3, f4, f36, b_b1, ld_33_0_3, ld_33_5_9]) (by simp [-splice, f1, f3, f4, f36, b_b1, ld_33_0_3, ld_33_5_9]) ?_; simp [-splice, f1, f3, f4, f36, b_b1, ld_33_0_3, ld_33_5_9]
    refine evY_sound (f := 1) ?_; simp [-splice, f1, f3, f4, f36, b_b1, ld_33_0_3, ld_33_5_9]
    refine Stk.gen (fun t H n => t 1 = .own b1 0 ∧ t 48 = .sc (.bool ((a0.Name.toList == (⟨#[]⟩ : ByteArray).toList) && ((a0.Kids.length : Int) == 0))) ∧ H b1 = some (.cells (c33 a0) 33) ∧ b1 < n) (by and_intros <;> first | assumption | simp [-splice, f1, f3, f4, f36, b_b1, ld_33_0_3, ld_33_5_9]) ?_
    clear f1 f3 f4 f36 b_b1 l_b1
    rintro t H n ⟨f1, f48, b_b1, l_b1⟩
    obtain ⟨K3, hK3, h⟩ := jnd h
    refine Stk.jo 4 (fun t H n => ∃ v4 : Bool, K3 v4 = some r ∧ t 52 = .sc (.bool v4)) (fun J3 hJ3 => ?_) ?_
    · rcases Bool.eq_false_or_eq_true ((a0.Name.toList == (⟨#[]⟩ : ByteArray).toList) && ((a0.Kids.length : Int) == 0)) with hb3 | hb3
      · rw [hb3] at f48
        replace h := cT hb3 h
        obtain ⟨x5, hx5, h⟩ := bnd h
        refine evY_sound (f := 2) ?_; simp [-splice, f1, f48, b_b1, ld_33_3_2]
        refine Stk.cv (g := 128) (args := [.sc (.int .i64 a0.Num)]) (args' := [.sc (.int .i64 a0.Num)]) (v := .sc (.bool x5)) [] (ok_R04_number F _ _ hx5) (by simp [-splice, f1, f48, b_b1, ld_33_3_2]) rfl rfl (by simp [-splice, f1, f48, b_b1, ld_33_3_2]) (.cons (.free (rfl)) (.nil)) (.inl ⟨rfl, rfl⟩) (fun t' ht' => ?_)
        subst ht'
        refine evY_sound (f := 2) ?_; simp [-splice, f1, f48, b_b1, ld_33_3_2]
        exact Stk.ln 0 (by decide) (hJ3 _ _ _ ⟨x5, h, by simp [-splice, f1, f48, b_b1, ld_33_3_2]⟩)
      · rw [hb3] at f48
        replace h := cF hb3 h
        refine evY_sound (f := 5) ?_; simp [-splice, f1, f48, b_b1]
        exact Stk.ln 0 (by decide) (hJ3 _ _ _ ⟨false, h, by simp [-splice, f1, f48, b_b1]⟩)
    clear h f1 f48 b_b1 l_b1
    rintro t H n ⟨v4, h, f52⟩
    subst hK3
    refine evY_sound (f := 3) ?_; simp [-splice, f52]
    have hq := Option.some.inj h; subst hq
    exact (hr _ _ _ (.sc (.bool v4)) ([]) (by simp [-splice, f52]) (.inr (.inr (.free (rfl))))).1
   ·have h := cF hb3 h
    refine evY_sound (f := 5) ?_; simp [-splice, f1, f3, f4, f36, b_b1, ld_33_0_3]
    refine Stk.cond (a0.Kind == 1) (by simp [-splice, f1, f3, f4, f36, b_b1, ld_33_0_3]) (fun hb6 => ?_) (fun hb6 => ?_)
    ·have h := cT hb6 h
     refine evY_sound (f := 6) ?_; simp [-splice, f1, f3, f4, f36, b_b1, ld_33_0_3, ld_33_5_9]
     refine Stk.gd 3 58 61 (fun z => .sc (.bool (z && ((a0.Kids.length : Int) == 0)))) (w := (a0.Name.toList == (⟨#[]⟩ : ByteArray).toList)) (by simp [-splice, f1, f3, f4, f36, b_b1, ld_33_0_3, ld_33_5_9]) (by simp [-splice, f1, f3, f4, f36, b_b1, ld_33_0_3, ld_33_5_9]) (by simp [-splice, f1, f3, f4, f36, b_b1, ld_33_0_3, ld_33_5_9]) ?_; simp [-splice, f1, f3, f4, f36, b_b1, ld_33_0_3, ld_33_5_9]
     refine evY_sound (f := 1) ?_; simp [-splice, f1, f3, f4, f36, b_b1, ld_33_0_3, ld_33_5_9]
     refine Stk.gd 4 62 66 (fun z => .sc (.bool (z && (a0.Num == 0)))) (w := ((a0.Name.toList == (⟨#[]⟩ : ByteArray).toList) && ((a0.Kids.length : Int) == 0))) (by simp [-splice, f1, f3, f4, f36, b_b1, ld_33_0_3, ld_33_5_9]) (by simp [-splice, f1, f3, f4, f36, b_b1, ld_33_0_3, ld_33_5_9, ld_33_3_2]) (by simp [-splice, f1, f3, f4, f36, b_b1, ld_33_0_3, ld_33_5_9, ld_33_3_2]) ?_; simp [-splice, f1, f3, f4, f36, b_b1, ld_33_0_3, ld_33_5_9]
     refine evY_sound (f := 1) ?_; simp [-splice, f1, f3, f4, f36, b_b1, ld_33_0_3, ld_33_5_9]
     refine Stk.gd 5 67 72 (fun z => .sc (.bool (z && (decide ((a0.Bytes.length : Int) ≤ 64))))) (w := (((a0.Name.toList == (⟨#[]⟩ : ByteArray).toList) && ((a0.Kids.length : Int) == 0)) && (a0.Num == 0))) (by simp [-splice, f1, f3, f4, f36, b_b1, ld_33_0_3, ld_33_5_9]) (by simp [-splice, f1, f3, f4, f36, b_b1, ld_33_0_3, ld_33_5_9, ld_33_4_29]) (by simp [-splice, f1, f3, f4, f36, b_b1, ld_33_0_3, ld_33_5_9, ld_33_4_29]) ?_; simp [-splice, f1, f3, f4, f36, b_b1, ld_33_0_3, ld_33_5_9]
     refine evY_sound (f := 3) ?_; simp [-splice, f1, f3, f4, f36, b_b1, ld_33_0_3, ld_33_5_9]
     have hq := Option.some.inj h; subst hq
     exact (hr _ _ _ (.sc (.bool ((((a0.Name.toList == (⟨#[]⟩ : ByteArray).toList) && ((a0.Kids.length : Int) == 0)) && (a0.Num == 0)) && (decide ((a0.Bytes.length : Int) ≤ 64))))) ([]) (by simp [-splice, f1, f3, f4, f36, b_b1, ld_33_0_3, ld_33_5_9]) (.inr (.inr (.free (rfl))))).1
    ·have h := cF hb6 h
     refine evY_sound (f := 5) ?_; simp [-splice, f1, f3, f4, f36, b_b1, ld_33_0_3]
     refine Stk.cond (a0.Kind == 2) (by simp [-splice, f1, f3, f4, f36, b_b1, ld_33_0_3]) (fun hb7 => ?_) (fun hb7 => ?_)
     ·have h := cT hb7 h
      refine evY_sound (f := 4) ?_; simp [-splice, f1, f3, f4, f36, b_b1, ld_33_0_3]
      refine Stk.gd 3 76 79 (fun z => .sc (.bool (z && ((a0.Kids.length : Int) == 0)))) (w := ((a0.Num == 0) && ((a0.Bytes.length : Int) == 0))) (by simp [-splice, f1, f3, f4, f36, b_b1, ld_33_0_3]) (by simp [-splice, f1, f3, f4, f36, b_b1, ld_33_0_3]) (by simp [-splice, f1, f3, f4, f36, b_b1, ld_33_0_3]) ?_; simp [-splice, f1, f3, f4, f36, b_b1, ld_33_0_3]
      refine evY_sound (f := 1) ?_; simp [-splice, f1, f3, f4, f36, b_b1, ld_33_0_3]
      refine Stk.gen (fun t H n => t 1 = .own b1 0 ∧ t 80 = .sc (.bool (((a0.Num == 0) && ((a0.Bytes.length : Int) == 0)) && ((a0.Kids.length : Int) == 0))) ∧ H b1 = some (.cells (c33 a0) 33) ∧ b1 < n) (by and_intros <;> first | assumption | simp [-splice, f1, f3, f4, f36, b_b1, ld_33_0_3]) ?_
      clear f1 f3 f4 f36 b_b1 l_b1
      rintro t H n ⟨f1, f80, b_b1, l_b1⟩
      obtain ⟨K4, hK4, h⟩ := jnd h
      refine Stk.jo 9 (fun t H n => ∃ v8 : Bool, K4 v8 = some r ∧ t 89 = .sc (.bool v8)) (fun J4 hJ4 => ?_) ?_
      · rcases Bool.eq_false_or_eq_true (((a0.Num == 0) && ((a0.Bytes.length : Int) == 0)) && ((a0.Kids.length : Int) == 0)) with hb4 | hb4
        · rw [hb4] at f80
          replace h := cT hb4 h
          obtain ⟨x9, hx9, h⟩ := bnd h
          refine evY_sound (f := 2) ?_; simp [-splice, f1, f80, b_b1, ld_33_5_9]
          refine Stk.cv (g := 45) (args := [.sc (.string a0.Name), .sc (.bool false)]) (args' := [.sc (.string a0.Name), .sc (.bool false)]) (v := .sc (.bool x9)) [] (ok_R03_Named F _ _ _ hx9) (by simp [-splice, f1, f80, b_b1, ld_33_5_9]) rfl rfl (by simp [-splice, f1, f80, b_b1, ld_33_5_9]) (.cons (.free (rfl)) (.cons (.free (rfl)) (.nil))) (.inl ⟨rfl, rfl⟩) (fun t' ht' => ?_)
          subst ht'
          refine evY_sound (f := 1) ?_; simp [-splice, f1, f80, b_b1, ld_33_5_9]
          refine Stk.gen (fun t H n => t 1 = .own b1 0 ∧ t 80 = .sc (.bool true) ∧ t 84 = .sc (.bool x9) ∧ H b1 = some (.cells (c33 a0) 33) ∧ b1 < n) (by and_intros <;> first | assumption | simp [-splice, f1, f80, b_b1, ld_33_5_9]) ?_
          clear f1 f80 b_b1 l_b1
          rintro t H n ⟨f1, f80, f84, b_b1, l_b1⟩
          refine Stk.jo 4 (fun t H n => t 80 = .sc (.bool true) ∧ t 88 = .sc (.bool (x9 || (a0.Name.toList == (⟨#[115, 116, 97, 116, 101]⟩ : ByteArray).toList)))) (fun J5 hJ5 => ?_) ?_
          · rcases Bool.eq_false_or_eq_true x9 with hb5 | hb5
            · rw [hb5] at f84
              refine evY_sound (f := 5) ?_; simp [-splice, f1, f80, f84, b_b1]
              refine Stk.gen (fun t H n => t 80 = .sc (.bool true) ∧ t 88 = .sc (.bool true)) (by and_intros <;> first | assumption | simp [-splice, f1, f80, f84, b_b1]) ?_
              clear f1 f80 f84 b_b1 l_b1
              rintro t H n ⟨f80, f88⟩
              exact Stk.ln 0 (by decide) (hJ5 _ _ _ ⟨f80, f88.trans (congrArg (fun q => AV.sc (.bool q)) (by rw [hb5]; rfl))⟩)
            · rw [hb5] at f84
              refine evY_sound (f := 5) ?_; simp [-splice, f1, f80, f84, b_b1, ld_33_5_9]
              refine Stk.gen (fun t H n => t 80 = .sc (.bool true) ∧ t 88 = .sc (.bool (a0.Name.toList == (⟨#[115, 116, 97, 116, 101]⟩ : ByteArray).toList))) (by and_intros <;> first | assumption | simp [-splice, f1, f80, f84, b_b1, ld_33_5_9]) ?_
              clear f1 f80 f84 b_b1 l_b1
              rintro t H n ⟨f80, f88⟩
              exact Stk.ln 0 (by decide) (hJ5 _ _ _ ⟨f80, f88.trans (congrArg (fun q => AV.sc (.bool q)) (by rw [hb5]; rfl))⟩)
          clear f1 f80 f84 b_b1 l_b1
          rintro t H n ⟨f80, f88⟩
          refine evY_sound (f := 2) ?_; simp [-splice, f80, f88]
          exact Stk.ln 0 (by decide) (hJ4 _ _ _ ⟨(x9 || (a0.Name.toList == (⟨#[115, 116, 97, 116, 101]⟩ : ByteArray).toList)), h, by simp [-splice, f80, f88]⟩)
        · rw [hb4] at f80
          replace h := cF hb4 h
          refine evY_sound (f := 10) ?_; simp [-splice, f1, f80, b_b1]
          exact Stk.ln 0 (by decide) (hJ4 _ _ _ ⟨false, h, by simp [-splice, f1, f80, b_b1]⟩)
      clear h f1 f80 b_b1 l_b1
      rintro t H n ⟨v8, h, f89⟩
      subst hK4
      refine evY_sound (f := 3) ?_; simp [-splice, f89]
      have hq := Option.some.inj h; subst hq
      exact (hr _ _ _ (.sc (.bool v8)) ([]) (by simp [-splice, f89]) (.inr (.inr (.free (rfl))))).1
     ·have h := cF hb7 h
      refine evY_sound (f := 5) ?_; simp [-splice, f1, f3, f4, f36, b_b1, ld_33_0_3]
      refine Stk.cond (a0.Kind == 3) (by simp [-splice, f1, f3, f4, f36, b_b1, ld_33_0_3]) (fun hb10 => ?_) (fun hb10 => ?_)
      ·have h := cT hb10 h
       refine evY_sound (f := 4) ?_; simp [-splice, f1, f3, f4, f36, b_b1, ld_33_0_3]
       refine Stk.gen (fun t H n => t 1 = .own b1 0 ∧ t 3 = .sc (.int .i64 (a0.Kids.length : Int)) ∧ t 93 = .sc (.bool ((a0.Num == 0) && ((a0.Bytes.length : Int) == 0))) ∧ H b1 = some (.cells (c33 a0) 33) ∧ b1 < n) (by and_intros <;> first | assumption | simp [-splice, f1, f3, f4, f36, b_b1, ld_33_0_3]) ?_
       clear f1 f3 f4 f36 b_b1 l_b1
       rintro t H n ⟨f1, f3, f93, b_b1, l_b1⟩
       obtain ⟨K6, hK6, h⟩ := jnd h
       refine Stk.jo 4 (fun t H n => ∃ v11 : Bool, K6 v11 = some r ∧ t 3 = .sc (.int .i64 (a0.Kids.length : Int)) ∧ t 97 = .sc (.bool v11)) (fun J6 hJ6 => ?_) ?_
       · rcases Bool.eq_false_or_eq_true ((a0.Num == 0) && ((a0.Bytes.length : Int) == 0)) with hb6 | hb6
         · rw [hb6] at f93
           replace h := cT hb6 h
           obtain ⟨x12, hx12, h⟩ := bnd h
           refine evY_sound (f := 2) ?_; simp [-splice, f1, f3, f93, b_b1, ld_33_5_9]
           refine Stk.cv (g := 45) (args := [.sc (.string a0.Name), .sc (.bool true)]) (args' := [.sc (.string a0.Name), .sc (.bool true)]) (v := .sc (.bool x12)) [] (ok_R03_Named F _ _ _ hx12) (by simp [-splice, f1, f3, f93, b_b1, ld_33_5_9]) rfl rfl (by simp [-splice, f1, f3, f93, b_b1, ld_33_5_9]) (.cons (.free (rfl)) (.cons (.free (rfl)) (.nil))) (.inl ⟨rfl, rfl⟩) (fun t' ht' => ?_)
           subst ht'
           refine evY_sound (f := 2) ?_; simp [-splice, f1, f3, f93, b_b1, ld_33_5_9]
           exact Stk.ln 0 (by decide) (hJ6 _ _ _ ⟨x12, h, by and_intros <;> first | assumption | simp [-splice, f1, f3, f93, b_b1, ld_33_5_9]⟩)
         · rw [hb6] at f93
           replace h := cF hb6 h
           refine evY_sound (f := 5) ?_; simp [-splice, f1, f3, f93, b_b1]
           exact Stk.ln 0 (by decide) (hJ6 _ _ _ ⟨false, h, by and_intros <;> first | assumption | simp [-splice, f1, f3, f93, b_b1]⟩)
       clear h f1 f3 f93 b_b1 l_b1
       rintro t H n ⟨v11, h, f3, f97⟩
       subst hK6
       refine evY_sound (f := 1) ?_; simp [-splice, f3, f97]
       refine Stk.gd 3 98 101 (fun z => .sc (.bool (z && (decide ((a0.Kids.length : Int) ≤ 6))))) (w := v11) (by simp [-splice, f3, f97]) (by simp [-splice, f3, f97]) (by simp [-splice, f3, f97]) ?_; simp [-splice, f3, f97]
       refine evY_sound (f := 3) ?_; simp [-splice, f3, f97]
       have hq := Option.some.inj h; subst hq
       exact (hr _ _ _ (.sc (.bool (v11 && (decide ((a0.Kids.length : Int) ≤ 6))))) ([]) (by simp [-splice, f3, f97]) (.inr (.inr (.free (rfl))))).1
      ·have h := cF hb10 h
       refine evY_sound (f := 5) ?_; simp [-splice, f1, f3, f4, f36, b_b1, ld_33_0_3]
       refine Stk.cond (a0.Kind == 4) (by simp [-splice, f1, f3, f4, f36, b_b1, ld_33_0_3]) (fun hb13 => ?_) (fun hb13 => ?_)
       ·have h := cT hb13 h
        refine evY_sound (f := 4) ?_; simp [-splice, f1, f3, f4, f36, b_b1, ld_33_0_3]
        refine Stk.gd 4 105 109 (fun z => .sc (.bool (z && (a0.Name.toList == (⟨#[]⟩ : ByteArray).toList)))) (w := ((a0.Num == 0) && ((a0.Bytes.length : Int) == 0))) (by simp [-splice, f1, f3, f4, f36, b_b1, ld_33_0_3]) (by simp [-splice, f1, f3, f4, f36, b_b1, ld_33_0_3, ld_33_5_9]) (by simp [-splice, f1, f3, f4, f36, b_b1, ld_33_0_3, ld_33_5_9]) ?_; simp [-splice, f1, f3, f4, f36, b_b1, ld_33_0_3]
        refine evY_sound (f := 1) ?_; simp [-splice, f1, f3, f4, f36, b_b1, ld_33_0_3]
        refine Stk.gd 3 110 113 (fun z => .sc (.bool (z && (decide (2 ≤ (a0.Kids.length : Int)))))) (w := (((a0.Num == 0) && ((a0.Bytes.length : Int) == 0)) && (a0.Name.toList == (⟨#[]⟩ : ByteArray).toList))) (by simp [-splice, f1, f3, f4, f36, b_b1, ld_33_0_3]) (by simp [-splice, f1, f3, f4, f36, b_b1, ld_33_0_3]) (by simp [-splice, f1, f3, f4, f36, b_b1, ld_33_0_3]) ?_; simp [-splice, f1, f3, f4, f36, b_b1, ld_33_0_3]
        refine evY_sound (f := 1) ?_; simp [-splice, f1, f3, f4, f36, b_b1, ld_33_0_3]
        refine Stk.gd 3 114 117 (fun z => .sc (.bool (z && (decide ((a0.Kids.length : Int) ≤ 6))))) (w := ((((a0.Num == 0) && ((a0.Bytes.length : Int) == 0)) && (a0.Name.toList == (⟨#[]⟩ : ByteArray).toList)) && (decide (2 ≤ (a0.Kids.length : Int))))) (by simp [-splice, f1, f3, f4, f36, b_b1, ld_33_0_3]) (by simp [-splice, f1, f3, f4, f36, b_b1, ld_33_0_3]) (by simp [-splice, f1, f3, f4, f36, b_b1, ld_33_0_3]) ?_; simp [-splice, f1, f3, f4, f36, b_b1, ld_33_0_3]
        refine evY_sound (f := 3) ?_; simp [-splice, f1, f3, f4, f36, b_b1, ld_33_0_3]
        have hq := Option.some.inj h; subst hq
        exact (hr _ _ _ (.sc (.bool (((((a0.Num == 0) && ((a0.Bytes.length : Int) == 0)) && (a0.Name.toList == (⟨#[]⟩ : ByteArray).toList)) && (decide (2 ≤ (a0.Kids.length : Int)))) && (decide ((a0.Kids.length : Int) ≤ 6))))) ([]) (by simp [-splice, f1, f3, f4, f36, b_b1, ld_33_0_3]) (.inr (.inr (.free (rfl))))).1
       ·have h := cF hb13 h
        refine evY_sound (f := 5) ?_; simp [-splice, f1, f3, f4, f36, b_b1, ld_33_0_3]
        refine Stk.cond (a0.Kind == 5) (by simp [-splice, f1, f3, f4, f36, b_b1, ld_33_0_3]) (fun hb14 => ?_) (fun hb14 => ?_)
        ·have h := cT hb14 h
         refine evY_sound (f := 4) ?_; simp [-splice, f1, f3, f4, f36, b_b1, ld_33_0_3]
         refine Stk.gen (fun t H n => t 1 = .own b1 0 ∧ t 3 = .sc (.int .i64 (a0.Kids.length : Int)) ∧ t 121 = .sc (.bool ((a0.Num == 0) && ((a0.Bytes.length : Int) == 0))) ∧ H b1 = some (.cells (c33 a0) 33) ∧ b1 < n) (by and_intros <;> first | assumption | simp [-splice, f1, f3, f4, f36, b_b1, ld_33_0_3]) ?_
         clear f1 f3 f4 f36 b_b1 l_b1
         rintro t H n ⟨f1, f3, f121, b_b1, l_b1⟩
         obtain ⟨K7, hK7, h⟩ := jnd h
         refine Stk.jo 4 (fun t H n => ∃ v15 : Bool, K7 v15 = some r ∧ t 3 = .sc (.int .i64 (a0.Kids.length : Int)) ∧ t 125 = .sc (.bool v15)) (fun J7 hJ7 => ?_) ?_
         · rcases Bool.eq_false_or_eq_true ((a0.Num == 0) && ((a0.Bytes.length : Int) == 0)) with hb7 | hb7
           · rw [hb7] at f121
             replace h := cT hb7 h
             obtain ⟨x16, hx16, h⟩ := bnd h
             refine evY_sound (f := 2) ?_; simp [-splice, f1, f3, f121, b_b1, ld_33_5_9]
             refine Stk.cv (g := 114) (args := [.sc (.string a0.Name)]) (args' := [.sc (.string a0.Name)]) (v := .sc (.bool x16)) [] (ok_R04_Called F _ _ hx16) (by simp [-splice, f1, f3, f121, b_b1, ld_33_5_9]) rfl rfl (by simp [-splice, f1, f3, f121, b_b1, ld_33_5_9]) (.cons (.free (rfl)) (.nil)) (.inl ⟨rfl, rfl⟩) (fun t' ht' => ?_)
             subst ht'
             refine evY_sound (f := 2) ?_; simp [-splice, f1, f3, f121, b_b1, ld_33_5_9]
             exact Stk.ln 0 (by decide) (hJ7 _ _ _ ⟨x16, h, by and_intros <;> first | assumption | simp [-splice, f1, f3, f121, b_b1, ld_33_5_9]⟩)
           · rw [hb7] at f121
             replace h := cF hb7 h
             refine evY_sound (f := 5) ?_; simp [-splice, f1, f3, f121, b_b1]
             exact Stk.ln 0 (by decide) (hJ7 _ _ _ ⟨false, h, by and_intros <;> first | assumption | simp [-splice, f1, f3, f121, b_b1]⟩)
         clear h f1 f3 f121 b_b1 l_b1
         rintro t H n ⟨v15, h, f3, f125⟩
         subst hK7
         refine evY_sound (f := 1) ?_; simp [-splice, f3, f125]
         refine Stk.gd 3 126 129 (fun z => .sc (.bool (z && (decide (1 ≤ (a0.Kids.length : Int)))))) (w := v15) (by simp [-splice, f3, f125]) (by simp [-splice, f3, f125]) (by simp [-splice, f3, f125]) ?_; simp [-splice, f3, f125]
         refine evY_sound (f := 1) ?_; simp [-splice, f3, f125]
         refine Stk.gd 3 130 133 (fun z => .sc (.bool (z && (decide ((a0.Kids.length : Int) ≤ 6))))) (w := (v15 && (decide (1 ≤ (a0.Kids.length : Int))))) (by simp [-splice, f3, f125]) (by simp [-splice, f3, f125]) (by simp [-splice, f3, f125]) ?_; simp [-splice, f3, f125]
         refine evY_sound (f := 3) ?_; simp [-splice, f3, f125]
         have hq := Option.some.inj h; subst hq
         exact (hr _ _ _ (.sc (.bool ((v15 && (decide (1 ≤ (a0.Kids.length : Int)))) && (decide ((a0.Kids.length : Int) ≤ 6))))) ([]) (by simp [-splice, f3, f125]) (.inr (.inr (.free (rfl))))).1
        ·have h := cF hb14 h
         refine evY_sound (f := 5) ?_; simp [-splice, f1, f3, f4, f36, b_b1, ld_33_0_3]
         refine Stk.cond (a0.Kind == 6) (by simp [-splice, f1, f3, f4, f36, b_b1, ld_33_0_3]) (fun hb17 => ?_) (fun hb17 => ?_)
         ·have h := cT hb17 h
          refine evY_sound (f := 4) ?_; simp [-splice, f1, f3, f4, f36, b_b1, ld_33_0_3]
          refine Stk.gen (fun t H n => t 1 = .own b1 0 ∧ t 3 = .sc (.int .i64 (a0.Kids.length : Int)) ∧ t 137 = .sc (.bool ((a0.Num == 0) && ((a0.Bytes.length : Int) == 0))) ∧ H b1 = some (.cells (c33 a0) 33) ∧ b1 < n) (by and_intros <;> first | assumption | simp [-splice, f1, f3, f4, f36, b_b1, ld_33_0_3]) ?_
          clear f1 f3 f4 f36 b_b1 l_b1
          rintro t H n ⟨f1, f3, f137, b_b1, l_b1⟩
          obtain ⟨K8, hK8, h⟩ := jnd h
          refine Stk.jo 4 (fun t H n => ∃ v18 : Bool, K8 v18 = some r ∧ t 3 = .sc (.int .i64 (a0.Kids.length : Int)) ∧ t 141 = .sc (.bool v18)) (fun J8 hJ8 => ?_) ?_
          · rcases Bool.eq_false_or_eq_true ((a0.Num == 0) && ((a0.Bytes.length : Int) == 0)) with hb8 | hb8
            · rw [hb8] at f137
              replace h := cT hb8 h
              obtain ⟨x19, hx19, h⟩ := bnd h
              refine evY_sound (f := 2) ?_; simp [-splice, f1, f3, f137, b_b1, ld_33_5_9]
              refine Stk.cv (g := 45) (args := [.sc (.string a0.Name), .sc (.bool false)]) (args' := [.sc (.string a0.Name), .sc (.bool false)]) (v := .sc (.bool x19)) [] (ok_R03_Named F _ _ _ hx19) (by simp [-splice, f1, f3, f137, b_b1, ld_33_5_9]) rfl rfl (by simp [-splice, f1, f3, f137, b_b1, ld_33_5_9]) (.cons (.free (rfl)) (.cons (.free (rfl)) (.nil))) (.inl ⟨rfl, rfl⟩) (fun t' ht' => ?_)
              subst ht'
              refine evY_sound (f := 2) ?_; simp [-splice, f1, f3, f137, b_b1, ld_33_5_9]
              exact Stk.ln 0 (by decide) (hJ8 _ _ _ ⟨x19, h, by and_intros <;> first | assumption | simp [-splice, f1, f3, f137, b_b1, ld_33_5_9]⟩)
            · rw [hb8] at f137
              replace h := cF hb8 h
              refine evY_sound (f := 5) ?_; simp [-splice, f1, f3, f137, b_b1]
              exact Stk.ln 0 (by decide) (hJ8 _ _ _ ⟨false, h, by and_intros <;> first | assumption | simp [-splice, f1, f3, f137, b_b1]⟩)
          clear h f1 f3 f137 b_b1 l_b1
          rintro t H n ⟨v18, h, f3, f141⟩
          subst hK8
          refine evY_sound (f := 1) ?_; simp [-splice, f3, f141]
          refine Stk.gd 3 142 145 (fun z => .sc (.bool (z && ((a0.Kids.length : Int) == 2)))) (w := v18) (by simp [-splice, f3, f141]) (by simp [-splice, f3, f141]) (by simp [-splice, f3, f141]) ?_; simp [-splice, f3, f141]
          refine evY_sound (f := 3) ?_; simp [-splice, f3, f141]
          have hq := Option.some.inj h; subst hq
          exact (hr _ _ _ (.sc (.bool (v18 && ((a0.Kids.length : Int) == 2)))) ([]) (by simp [-splice, f3, f141]) (.inr (.inr (.free (rfl))))).1
         ·have h := cF hb17 h
          refine evY_sound (f := 5) ?_; simp [-splice, f1, f3, f4, f36, b_b1, ld_33_0_3]
          refine Stk.cond (a0.Kind == 7) (by simp [-splice, f1, f3, f4, f36, b_b1, ld_33_0_3]) (fun hb20 => ?_) (fun hb20 => ?_)
          ·have h := cT hb20 h
           refine evY_sound (f := 4) ?_; simp [-splice, f1, f3, f4, f36, b_b1, ld_33_0_3]
           refine Stk.gd 4 149 153 (fun z => .sc (.bool (z && (a0.Name.toList == (⟨#[]⟩ : ByteArray).toList)))) (w := ((a0.Num == 0) && ((a0.Bytes.length : Int) == 0))) (by simp [-splice, f1, f3, f4, f36, b_b1, ld_33_0_3]) (by simp [-splice, f1, f3, f4, f36, b_b1, ld_33_0_3, ld_33_5_9]) (by simp [-splice, f1, f3, f4, f36, b_b1, ld_33_0_3, ld_33_5_9]) ?_; simp [-splice, f1, f3, f4, f36, b_b1, ld_33_0_3]
           refine evY_sound (f := 1) ?_; simp [-splice, f1, f3, f4, f36, b_b1, ld_33_0_3]
           refine Stk.gd 3 154 157 (fun z => .sc (.bool (z && ((a0.Kids.length : Int) == 3)))) (w := (((a0.Num == 0) && ((a0.Bytes.length : Int) == 0)) && (a0.Name.toList == (⟨#[]⟩ : ByteArray).toList))) (by simp [-splice, f1, f3, f4, f36, b_b1, ld_33_0_3]) (by simp [-splice, f1, f3, f4, f36, b_b1, ld_33_0_3]) (by simp [-splice, f1, f3, f4, f36, b_b1, ld_33_0_3]) ?_; simp [-splice, f1, f3, f4, f36, b_b1, ld_33_0_3]
           refine evY_sound (f := 3) ?_; simp [-splice, f1, f3, f4, f36, b_b1, ld_33_0_3]
           have hq := Option.some.inj h; subst hq
           exact (hr _ _ _ (.sc (.bool ((((a0.Num == 0) && ((a0.Bytes.length : Int) == 0)) && (a0.Name.toList == (⟨#[]⟩ : ByteArray).toList)) && ((a0.Kids.length : Int) == 3)))) ([]) (by simp [-splice, f1, f3, f4, f36, b_b1, ld_33_0_3]) (.inr (.inr (.free (rfl))))).1
          ·have h := cF hb20 h
           refine evY_sound (f := 5) ?_; simp [-splice, f1, f3, f4, f36, b_b1, ld_33_0_3]
           refine Stk.cond (a0.Kind == 8) (by simp [-splice, f1, f3, f4, f36, b_b1, ld_33_0_3]) (fun hb21 => ?_) (fun hb21 => ?_)
           ·have h := cT hb21 h
            refine evY_sound (f := 4) ?_; simp [-splice, f1, f3, f4, f36, b_b1, ld_33_0_3]
            refine Stk.gd 4 161 165 (fun z => .sc (.bool (z && (a0.Name.toList == (⟨#[]⟩ : ByteArray).toList)))) (w := ((a0.Num == 0) && ((a0.Bytes.length : Int) == 0))) (by simp [-splice, f1, f3, f4, f36, b_b1, ld_33_0_3]) (by simp [-splice, f1, f3, f4, f36, b_b1, ld_33_0_3, ld_33_5_9]) (by simp [-splice, f1, f3, f4, f36, b_b1, ld_33_0_3, ld_33_5_9]) ?_; simp [-splice, f1, f3, f4, f36, b_b1, ld_33_0_3]
            refine evY_sound (f := 1) ?_; simp [-splice, f1, f3, f4, f36, b_b1, ld_33_0_3]
            refine Stk.gd 3 166 169 (fun z => .sc (.bool (z && ((a0.Kids.length : Int) == 1)))) (w := (((a0.Num == 0) && ((a0.Bytes.length : Int) == 0)) && (a0.Name.toList == (⟨#[]⟩ : ByteArray).toList))) (by simp [-splice, f1, f3, f4, f36, b_b1, ld_33_0_3]) (by simp [-splice, f1, f3, f4, f36, b_b1, ld_33_0_3]) (by simp [-splice, f1, f3, f4, f36, b_b1, ld_33_0_3]) ?_; simp [-splice, f1, f3, f4, f36, b_b1, ld_33_0_3]
            refine evY_sound (f := 1) ?_; simp [-splice, f1, f3, f4, f36, b_b1, ld_33_0_3]
            refine Stk.gd 5 170 175 (fun z => .sc (.bool (z && (decide (1 ≤ (a0.Arms.length : Int)))))) (w := ((((a0.Num == 0) && ((a0.Bytes.length : Int) == 0)) && (a0.Name.toList == (⟨#[]⟩ : ByteArray).toList)) && ((a0.Kids.length : Int) == 1))) (by simp [-splice, f1, f3, f4, f36, b_b1, ld_33_0_3]) (by simp [-splice, f1, f3, f4, f36, b_b1, ld_33_0_3, ld_33_7_31]) (by simp [-splice, f1, f3, f4, f36, b_b1, ld_33_0_3, ld_33_7_31]) ?_; simp [-splice, f1, f3, f4, f36, b_b1, ld_33_0_3]
            refine evY_sound (f := 1) ?_; simp [-splice, f1, f3, f4, f36, b_b1, ld_33_0_3]
            refine Stk.gd 5 176 181 (fun z => .sc (.bool (z && (decide ((a0.Arms.length : Int) ≤ 32))))) (w := (((((a0.Num == 0) && ((a0.Bytes.length : Int) == 0)) && (a0.Name.toList == (⟨#[]⟩ : ByteArray).toList)) && ((a0.Kids.length : Int) == 1)) && (decide (1 ≤ (a0.Arms.length : Int))))) (by simp [-splice, f1, f3, f4, f36, b_b1, ld_33_0_3]) (by simp [-splice, f1, f3, f4, f36, b_b1, ld_33_0_3, ld_33_7_31]) (by simp [-splice, f1, f3, f4, f36, b_b1, ld_33_0_3, ld_33_7_31]) ?_; simp [-splice, f1, f3, f4, f36, b_b1, ld_33_0_3]
            refine evY_sound (f := 3) ?_; simp [-splice, f1, f3, f4, f36, b_b1, ld_33_0_3]
            have hq := Option.some.inj h; subst hq
            exact (hr _ _ _ (.sc (.bool ((((((a0.Num == 0) && ((a0.Bytes.length : Int) == 0)) && (a0.Name.toList == (⟨#[]⟩ : ByteArray).toList)) && ((a0.Kids.length : Int) == 1)) && (decide (1 ≤ (a0.Arms.length : Int)))) && (decide ((a0.Arms.length : Int) ≤ 32))))) ([]) (by simp [-splice, f1, f3, f4, f36, b_b1, ld_33_0_3]) (.inr (.inr (.free (rfl))))).1
           ·have h := cF hb21 h
            refine evY_sound (f := 5) ?_; simp [-splice, f1, f3, f4, f36, b_b1, ld_33_0_3]
            refine Stk.cond (a0.Kind == 9) (by simp [-splice, f1, f3, f4, f36, b_b1, ld_33_0_3]) (fun hb22 => ?_) (fun hb22 => ?_)
            ·have h := cT hb22 h
             refine evY_sound (f := 6) ?_; simp [-splice, f1, f3, f4, f36, b_b1, ld_33_0_3, ld_33_5_9]
             refine Stk.gd 4 187 191 (fun z => .sc (.bool (z && (decide (0 ≤ a0.Num))))) (w := (a0.Name.toList == (⟨#[]⟩ : ByteArray).toList)) (by simp [-splice, f1, f3, f4, f36, b_b1, ld_33_0_3, ld_33_5_9]) (by simp [-splice, f1, f3, f4, f36, b_b1, ld_33_0_3, ld_33_5_9, ld_33_3_2]) (by simp [-splice, f1, f3, f4, f36, b_b1, ld_33_0_3, ld_33_5_9, ld_33_3_2]) ?_; simp [-splice, f1, f3, f4, f36, b_b1, ld_33_0_3, ld_33_5_9]
             refine evY_sound (f := 1) ?_; simp [-splice, f1, f3, f4, f36, b_b1, ld_33_0_3, ld_33_5_9]
             refine Stk.gd 4 192 196 (fun z => .sc (.bool (z && (decide (a0.Num < 12))))) (w := ((a0.Name.toList == (⟨#[]⟩ : ByteArray).toList) && (decide (0 ≤ a0.Num)))) (by simp [-splice, f1, f3, f4, f36, b_b1, ld_33_0_3, ld_33_5_9]) (by simp [-splice, f1, f3, f4, f36, b_b1, ld_33_0_3, ld_33_5_9, ld_33_3_2]) (by simp [-splice, f1, f3, f4, f36, b_b1, ld_33_0_3, ld_33_5_9, ld_33_3_2]) ?_; simp [-splice, f1, f3, f4, f36, b_b1, ld_33_0_3, ld_33_5_9]
             refine evY_sound (f := 1) ?_; simp [-splice, f1, f3, f4, f36, b_b1, ld_33_0_3, ld_33_5_9]
             refine Stk.gen (fun t H n => t 1 = .own b1 0 ∧ t 3 = .sc (.int .i64 (a0.Kids.length : Int)) ∧ t 197 = .sc (.bool (((a0.Name.toList == (⟨#[]⟩ : ByteArray).toList) && (decide (0 ≤ a0.Num))) && (decide (a0.Num < 12)))) ∧ H b1 = some (.cells (c33 a0) 33) ∧ b1 < n) (by and_intros <;> first | assumption | simp [-splice, f1, f3, f4, f36, b_b1, ld_33_0_3, ld_33_5_9]) ?_
             clear f1 f3 f4 f36 b_b1 l_b1
             rintro t H n ⟨f1, f3, f197, b_b1, l_b1⟩
             obtain ⟨K9, hK9, h⟩ := jnd h
             refine Stk.jo 6 (fun t H n => ∃ v23 : Bool, K9 v23 = some r ∧ t 203 = .sc (.bool v23)) (fun J9 hJ9 => ?_) ?_
             · rcases Bool.eq_false_or_eq_true (((a0.Name.toList == (⟨#[]⟩ : ByteArray).toList) && (decide (0 ≤ a0.Num))) && (decide (a0.Num < 12))) with hb9 | hb9
               · rw [hb9] at f197
                 replace h := cT hb9 h
                 obtain ⟨x24, hx24, h⟩ := bnd h
                 refine evY_sound (f := 3) ?_; simp [-splice, f1, f3, f197, b_b1, ld_33_3_2]
                 refine Stk.cv (g := 181) (args := [.sc (.int .i64 a0.Num)]) (args' := [.sc (.int .i64 a0.Num)]) (v := .sc (.int .i64 x24)) [] (ok_R04_Args F _ _ hx24) (by simp [-splice, f1, f3, f197, b_b1, ld_33_3_2]) rfl rfl (by simp [-splice, f1, f3, f197, b_b1, ld_33_3_2]) (.cons (.free (rfl)) (.nil)) (.inl ⟨rfl, rfl⟩) (fun t' ht' => ?_)
                 subst ht'
                 refine evY_sound (f := 3) ?_; simp [-splice, f1, f3, f197, b_b1, ld_33_3_2]
                 exact Stk.ln 0 (by decide) (hJ9 _ _ _ ⟨((a0.Kids.length : Int) == x24), h, by simp [-splice, f1, f3, f197, b_b1, ld_33_3_2]⟩)
               · rw [hb9] at f197
                 replace h := cF hb9 h
                 refine evY_sound (f := 7) ?_; simp [-splice, f1, f3, f197, b_b1]
                 exact Stk.ln 0 (by decide) (hJ9 _ _ _ ⟨false, h, by simp [-splice, f1, f3, f197, b_b1]⟩)
             clear h f1 f3 f197 b_b1 l_b1
             rintro t H n ⟨v23, h, f203⟩
             subst hK9
             refine evY_sound (f := 3) ?_; simp [-splice, f203]
             have hq := Option.some.inj h; subst hq
             exact (hr _ _ _ (.sc (.bool v23)) ([]) (by simp [-splice, f203]) (.inr (.inr (.free (rfl))))).1
            ·have h := cF hb22 h
             refine evY_sound (f := 5) ?_; simp [-splice, f1, f3, f4, f36, b_b1, ld_33_0_3]
             refine Stk.cond (a0.Kind == 10) (by simp [-splice, f1, f3, f4, f36, b_b1, ld_33_0_3]) (fun hb25 => ?_) (fun hb25 => ?_)
             ·have h := cT hb25 h
              refine evY_sound (f := 6) ?_; simp [-splice, f1, f3, f4, f36, b_b1, ld_33_0_3, ld_33_3_2]
              refine Stk.gd 4 209 213 (fun z => .sc (.bool (z && (decide (a0.Num ≤ 1000))))) (w := decide (0 ≤ a0.Num)) (by simp [-splice, f1, f3, f4, f36, b_b1, ld_33_0_3, ld_33_3_2]) (by simp [-splice, f1, f3, f4, f36, b_b1, ld_33_0_3, ld_33_3_2]) (by simp [-splice, f1, f3, f4, f36, b_b1, ld_33_0_3, ld_33_3_2]) ?_; simp [-splice, f1, f3, f4, f36, b_b1, ld_33_0_3, ld_33_3_2]
              refine evY_sound (f := 1) ?_; simp [-splice, f1, f3, f4, f36, b_b1, ld_33_0_3, ld_33_3_2]
              refine Stk.gen (fun t H n => t 1 = .own b1 0 ∧ t 3 = .sc (.int .i64 (a0.Kids.length : Int)) ∧ t 214 = .sc (.bool ((decide (0 ≤ a0.Num)) && (decide (a0.Num ≤ 1000)))) ∧ H b1 = some (.cells (c33 a0) 33) ∧ b1 < n) (by and_intros <;> first | assumption | simp [-splice, f1, f3, f4, f36, b_b1, ld_33_0_3, ld_33_3_2]) ?_
              clear f1 f3 f4 f36 b_b1 l_b1
              rintro t H n ⟨f1, f3, f214, b_b1, l_b1⟩
              obtain ⟨K10, hK10, h⟩ := jnd h
              refine Stk.jo 4 (fun t H n => ∃ v26 : Bool, K10 v26 = some r ∧ t 3 = .sc (.int .i64 (a0.Kids.length : Int)) ∧ t 218 = .sc (.bool v26)) (fun J10 hJ10 => ?_) ?_
              · rcases Bool.eq_false_or_eq_true ((decide (0 ≤ a0.Num)) && (decide (a0.Num ≤ 1000))) with hb10 | hb10
                · rw [hb10] at f214
                  replace h := cT hb10 h
                  obtain ⟨x27, hx27, h⟩ := bnd h
                  refine evY_sound (f := 2) ?_; simp [-splice, f1, f3, f214, b_b1, ld_33_5_9]
                  refine Stk.cv (g := 45) (args := [.sc (.string a0.Name), .sc (.bool false)]) (args' := [.sc (.string a0.Name), .sc (.bool false)]) (v := .sc (.bool x27)) [] (ok_R03_Named F _ _ _ hx27) (by simp [-splice, f1, f3, f214, b_b1, ld_33_5_9]) rfl rfl (by simp [-splice, f1, f3, f214, b_b1, ld_33_5_9]) (.cons (.free (rfl)) (.cons (.free (rfl)) (.nil))) (.inl ⟨rfl, rfl⟩) (fun t' ht' => ?_)
                  subst ht'
                  refine evY_sound (f := 2) ?_; simp [-splice, f1, f3, f214, b_b1, ld_33_5_9]
                  exact Stk.ln 0 (by decide) (hJ10 _ _ _ ⟨x27, h, by and_intros <;> first | assumption | simp [-splice, f1, f3, f214, b_b1, ld_33_5_9]⟩)
                · rw [hb10] at f214
                  replace h := cF hb10 h
                  refine evY_sound (f := 5) ?_; simp [-splice, f1, f3, f214, b_b1]
                  exact Stk.ln 0 (by decide) (hJ10 _ _ _ ⟨false, h, by and_intros <;> first | assumption | simp [-splice, f1, f3, f214, b_b1]⟩)
              clear h f1 f3 f214 b_b1 l_b1
              rintro t H n ⟨v26, h, f3, f218⟩
              subst hK10
              refine evY_sound (f := 1) ?_; simp [-splice, f3, f218]
              refine Stk.gd 3 219 222 (fun z => .sc (.bool (z && ((a0.Kids.length : Int) == 2)))) (w := v26) (by simp [-splice, f3, f218]) (by simp [-splice, f3, f218]) (by simp [-splice, f3, f218]) ?_; simp [-splice, f3, f218]
              refine evY_sound (f := 3) ?_; simp [-splice, f3, f218]
              have hq := Option.some.inj h; subst hq
              exact (hr _ _ _ (.sc (.bool (v26 && ((a0.Kids.length : Int) == 2)))) ([]) (by simp [-splice, f3, f218]) (.inr (.inr (.free (rfl))))).1
             ·have h := cF hb25 h
              refine evY_sound (f := 7) ?_; simp [-splice, f1, f3, f4, f36, b_b1, ld_33_0_3]
              have hq := Option.some.inj h; subst hq
              exact (hr _ _ _ (.sc (.bool false)) ([]) (by simp [-splice, f1, f3, f4, f36, b_b1, ld_33_0_3]) (.inr (.inr (.free (rfl))))).1
theorem okB_R04_fitPat (F : Nat) (ρ50 : api_Pat → Int → Option Bool) (hρ50 : ∀ a0 a1 r, ρ50 a0 a1 = some r → RunF Tryz.prog T.T 50 [.agg (c39 a0), .sc (.int .i64 a1)] (.sc (.bool r))) (a0 : api_Pat) (a1 : Int) (r : Bool) (h : R04_fitPat_B F ρ50 a0 a1 = some r) : RunF Tryz.prog T.T 50 [.agg (c39 a0), .sc (.int .i64 a1)] (.sc (.bool r)) := by
  rw [R04_fitPat_B] at h
  refine RunF.z Tryz.func50 rfl rfl rfl rfl rfl (fun C hr => ?_)
  refine Stk.gen (fun t H n => t 0 = .agg (c39 a0) ∧ t 1 = .sc (.int .i64 a1)) ⟨by simp, by simp⟩ ?_
  rintro t H n ⟨f0, f1⟩
  refine evY_sound (f := 2) ?_; simp [-splice, f0, f1]
  refine Stk.gen (fun t H n => t 0 = .agg (c39 a0) ∧ t 1 = .sc (.int .i64 a1)) (by and_intros <;> first | assumption | simp [-splice, f0, f1]) ?_
  clear f0 f1
  rintro t H n ⟨f0, f1⟩
  refine Stk.om (mop_box T.t39 (cs := c39 a0) (by show partOk (t 0) = true; rw [f0]; rfl) (by show cellsOf (t 0) = _; rw [f0]; rfl)) (by simp [f0, f1]) rfl (fun t' ht' => ?_)
  refine Stk.gen (fun t H n => ∃ b1, t 1 = .sc (.int .i64 a1) ∧ t 2 = .own b1 0 ∧ H b1 = some (.cells (c39 a0) 39) ∧ b1 < n) ⟨n, by simp [ht', f1], by simp [ht'], upd_same _ _ _, Nat.lt_succ_self _⟩ ?_
  clear f0 f1 ht' t'
  rintro t H n ⟨b1, f1, f2, b_b1, l_b1⟩
  refine evY_sound (f := 8) ?_; simp [-splice, f1, f2, b_b1]
  refine Stk.gen (fun t H n => t 1 = .sc (.int .i64 a1) ∧ t 2 = .own b1 0 ∧ t 8 = .sc (.bool (decide (a1 < 1))) ∧ H b1 = some (.cells (c39 a0) 39) ∧ b1 < n) (by and_intros <;> first | assumption | simp [-splice, f1, f2, b_b1]) ?_
  clear f1 f2 b_b1 l_b1
  rintro t H n ⟨f1, f2, f8, b_b1, l_b1⟩
  refine Stk.jo 9 (fun t H n => t 1 = .sc (.int .i64 a1) ∧ t 2 = .own b1 0 ∧ t 17 = .sc (.bool ((decide (a1 < 1)) || ((a0.Kind != 2) && (a0.Num != 0)))) ∧ H b1 = some (.cells (c39 a0) 39) ∧ b1 < n) (fun J1 hJ1 => ?_) ?_
  · rcases Bool.eq_false_or_eq_true (decide (a1 < 1)) with hb1 | hb1
    · rw [hb1] at f8
      refine evY_sound (f := 10) ?_; simp [-splice, f1, f2, f8, b_b1]
      refine Stk.gen (fun t H n => t 1 = .sc (.int .i64 a1) ∧ t 2 = .own b1 0 ∧ t 17 = .sc (.bool true) ∧ H b1 = some (.cells (c39 a0) 39) ∧ b1 < n) (by and_intros <;> first | assumption | simp [-splice, f1, f2, f8, b_b1]) ?_
      clear f1 f2 f8 b_b1 l_b1
      rintro t H n ⟨f1, f2, f17, b_b1, l_b1⟩
      exact Stk.ln 0 (by decide) (hJ1 _ _ _ ⟨f1, f2, f17.trans (congrArg (fun q => AV.sc (.bool q)) (by rw [hb1]; rfl)), b_b1, l_b1⟩)
    · rw [hb1] at f8
      refine evY_sound (f := 4) ?_; simp [-splice, f1, f2, f8, b_b1, ld_39_0_3]
      refine Stk.gen (fun t H n => t 1 = .sc (.int .i64 a1) ∧ t 2 = .own b1 0 ∧ t 8 = .sc (.bool false) ∧ t 12 = .sc (.bool (a0.Kind != 2)) ∧ H b1 = some (.cells (c39 a0) 39) ∧ b1 < n) (by and_intros <;> first | assumption | simp [-splice, f1, f2, f8, b_b1, ld_39_0_3]) ?_
      clear f1 f2 f8 b_b1 l_b1
      rintro t H n ⟨f1, f2, f8, f12, b_b1, l_b1⟩
      refine Stk.jo 4 (fun t H n => t 1 = .sc (.int .i64 a1) ∧ t 2 = .own b1 0 ∧ t 8 = .sc (.bool false) ∧ t 16 = .sc (.bool ((a0.Kind != 2) && (a0.Num != 0))) ∧ H b1 = some (.cells (c39 a0) 39) ∧ b1 < n) (fun J2 hJ2 => ?_) ?_
      · rcases Bool.eq_false_or_eq_true (a0.Kind != 2) with hb2 | hb2
        · rw [hb2] at f12
          refine evY_sound (f := 5) ?_; simp [-splice, f1, f2, f8, f12, b_b1, ld_39_4_2]
          refine Stk.gen (fun t H n => t 1 = .sc (.int .i64 a1) ∧ t 2 = .own b1 0 ∧ t 8 = .sc (.bool false) ∧ t 16 = .sc (.bool (a0.Num != 0)) ∧ H b1 = some (.cells (c39 a0) 39) ∧ b1 < n) (by and_intros <;> first | assumption | simp [-splice, f1, f2, f8, f12, b_b1, ld_39_4_2]) ?_
          clear f1 f2 f8 f12 b_b1 l_b1
          rintro t H n ⟨f1, f2, f8, f16, b_b1, l_b1⟩
          exact Stk.ln 0 (by decide) (hJ2 _ _ _ ⟨f1, f2, f8, f16.trans (congrArg (fun q => AV.sc (.bool q)) (by rw [hb2]; rfl)), b_b1, l_b1⟩)
        · rw [hb2] at f12
          refine evY_sound (f := 5) ?_; simp [-splice, f1, f2, f8, f12, b_b1]
          refine Stk.gen (fun t H n => t 1 = .sc (.int .i64 a1) ∧ t 2 = .own b1 0 ∧ t 8 = .sc (.bool false) ∧ t 16 = .sc (.bool false) ∧ H b1 = some (.cells (c39 a0) 39) ∧ b1 < n) (by and_intros <;> first | assumption | simp [-splice, f1, f2, f8, f12, b_b1]) ?_
          clear f1 f2 f8 f12 b_b1 l_b1
          rintro t H n ⟨f1, f2, f8, f16, b_b1, l_b1⟩
          exact Stk.ln 0 (by decide) (hJ2 _ _ _ ⟨f1, f2, f8, f16.trans (congrArg (fun q => AV.sc (.bool q)) (by rw [hb2]; rfl)), b_b1, l_b1⟩)
      clear f1 f2 f8 f12 b_b1 l_b1
      rintro t H n ⟨f1, f2, f8, f16, b_b1, l_b1⟩
      refine evY_sound (f := 2) ?_; simp [-splice, f1, f2, f8, f16, b_b1]
      refine Stk.gen (fun t H n => t 1 = .sc (.int .i64 a1) ∧ t 2 = .own b1 0 ∧ t 17 = .sc (.bool ((a0.Kind != 2) && (a0.Num != 0))) ∧ H b1 = some (.cells (c39 a0) 39) ∧ b1 < n) (by and_intros <;> first | assumption | simp [-splice, f1, f2, f8, f16, b_b1]) ?_
      clear f1 f2 f8 f16 b_b1 l_b1
      rintro t H n ⟨f1, f2, f17, b_b1, l_b1⟩
      exact Stk.ln 0 (by decide) (hJ1 _ _ _ ⟨f1, f2, f17.trans (congrArg (fun q => AV.sc (.bool q)) (by rw [hb1]; rfl)), b_b1, l_b1⟩)
  clear f1 f2 f8 b_b1 l_b1
  rintro t H n ⟨f1, f2, f17, b_b1, l_b1⟩
  refine evY_sound (f := 1) ?_; simp [-splice, f1, f2, f17, b_b1]
  refine Stk.cond ((decide (a1 < 1)) || ((a0.Kind != 2) && (a0.Num != 0))) (by simp [-splice, f1, f2, f17, b_b1]) (fun hb2 => ?_) (fun hb2 => ?_)
  ·have h := cT hb2 h
   refine evY_sound (f := 5) ?_; simp [-splice, f1, f2, f17, b_b1]
   have hq := Option.some.inj h; subst hq
   exact (hr _ _ _ (.sc (.bool false)) ([]) (by simp [-splice, f1, f2, f17, b_b1]) (.inr (.inr (.free (rfl))))).1
  ·have h := cF hb2 h
   refine evY_sound (f := 6) ?_; simp [-splice, f1, f2, f17, b_b1]
   obtain ⟨K3, hK3, h⟩ := jnd h
   refine Stk.jn (fun t H n => K3 () = some r ∧ t 2 = .own b1 0 ∧ H b1 = some (.cells (c39 a0) 39) ∧ b1 < n) trivial (fun J3 hJ3 => ?_) ?_
   · skip
     refine evY_sound (f := 1) ?_; simp [-splice, f1, f2, f17, b_b1]
     refine Stk.gen (fun t H n => t 1 = .sc (.int .i64 a1) ∧ t 2 = .own b1 0 ∧ t 5 = .sc (.int .i64 0) ∧ H b1 = some (.cells (c39 a0) 39) ∧ b1 < n) (by and_intros <;> first | assumption | simp [-splice, f1, f2, f17, b_b1]) ?_
     clear f1 f2 f17 b_b1 l_b1
     rintro t H n ⟨f1, f2, f5, b_b1, l_b1⟩
     refine Stk.lo (fun μ t H n => ∃ v3 : Int, R04_fitPat_L0 F ρ50 a0 a1 K3 μ v3 = some r ∧ t 1 = .sc (.int .i64 a1) ∧ t 2 = .own b1 0 ∧ t 5 = .sc (.int .i64 v3) ∧ H b1 = some (.cells (c39 a0) 39) ∧ b1 < n) F ⟨0, h, f1, f2, f5, b_b1, l_b1⟩ ?_
     clear h f1 f2 f5 b_b1 l_b1
     rintro J4 hJ4 μ t H n ⟨v3, h, f1, f2, f5, b_b1, l_b1⟩
     cases μ with
     | zero => exact absurd h (by simp [R04_fitPat_L0])
     | succ μ =>
     rw [R04_fitPat_L0] at h
     refine evY_sound (f := 9) ?_; simp [-splice, f1, f2, f5, b_b1, ld_39_5_37]
     refine Stk.gd 3 23 26 (fun z => .sc (.bool (z && (decide (v3 < 10))))) (w := decide (v3 < (a0.Kids.length : Int))) (by simp [-splice, f1, f2, f5, b_b1, ld_39_5_37]) (by simp [-splice, f1, f2, f5, b_b1, ld_39_5_37]) (by simp [-splice, f1, f2, f5, b_b1, ld_39_5_37]) ?_; simp [-splice, f1, f2, f5, b_b1, ld_39_5_37]
     refine evY_sound (f := 1) ?_; simp [-splice, f1, f2, f5, b_b1, ld_39_5_37]
     refine Stk.cond ((decide (v3 < (a0.Kids.length : Int))) && (decide (v3 < 10))) (by simp [-splice, f1, f2, f5, b_b1, ld_39_5_37]) (fun hb5 => ?_) (fun hb5 => ?_)
     ·have h := cT hb5 h
      obtain ⟨x6, hx6, h⟩ := bnd h
      obtain ⟨i0x6, i1x6, i2x6, _⟩ := idx_ok hx6
      have ex6_0_39 : partOf T.T 39 (encs c39 a0.Kids) (v3.toNat * 6) = some (.agg (c39 x6)) := by
          have e0 := part_elem0 (e := c39) (z := 6) (T := T.T) (ty := 39) T.t39 (by decide) (by decide) hx6 0 (by decide)
          (try simp only [Nat.mul_one, Nat.add_zero] at e0)
          exact e0.trans (ld_39_0_39 _)
      obtain ⟨x7, hx7, h⟩ := bnd h
      refine evY_sound (f := 12) ?_; simp [-splice, f1, f2, f5, b_b1, ld_39_5_37, i0x6, i1x6, pd39, ex6_0_39]
      refine Stk.cv (g := 50) (args := [.agg (c39 x6), .sc (.int .i64 (IntKind.i64.wrap (a1 - 1)))]) (args' := [.agg (c39 x6), .sc (.int .i64 (IntKind.i64.wrap (a1 - 1)))]) (v := .sc (.bool x7)) [] (hρ50 _ _ _ hx7) (by simp [-splice, f1, f2, f5, b_b1, ld_39_5_37, i0x6, i1x6, pd39, ex6_0_39]) rfl rfl (by simp [-splice, f1, f2, f5, b_b1, ld_39_5_37, i0x6, i1x6, pd39, ex6_0_39]) (.cons (.free (fr39 _)) (.cons (.free (rfl)) (.nil))) (.inl ⟨rfl, rfl⟩) (fun t' ht' => ?_)
      subst ht'
      refine evY_sound (f := 2) ?_; simp [-splice, f1, f2, f5, b_b1, ld_39_5_37, i0x6, i1x6, pd39, ex6_0_39]
      refine Stk.cond (!x7) (by simp [-splice, f1, f2, f5, b_b1, ld_39_5_37, i0x6, i1x6, pd39, ex6_0_39]) (fun hb8 => ?_) (fun hb8 => ?_)
      ·have h := cT hb8 h
       refine evY_sound (f := 5) ?_; simp [-splice, f1, f2, f5, b_b1, ld_39_5_37, i0x6, i1x6, pd39, ex6_0_39]
       have hq := Option.some.inj h; subst hq
       exact (hr _ _ _ (.sc (.bool false)) ([]) (by simp [-splice, f1, f2, f5, b_b1, ld_39_5_37, i0x6, i1x6, pd39, ex6_0_39]) (.inr (.inr (.free (rfl))))).1
      ·have h := cF hb8 h
       refine evY_sound (f := 7) ?_; simp [-splice, f1, f2, f5, b_b1, ld_39_5_37, i0x6, i1x6, pd39, ex6_0_39]
       exact Stk.ln μ (Nat.lt_succ_self _) (hJ4 _ _ _ _ ⟨(IntKind.i64.wrap (v3 + 1)), h, by and_intros <;> first | assumption | simp [-splice, f1, f2, f5, b_b1, ld_39_5_37, i0x6, i1x6, pd39, ex6_0_39]⟩)
     ·have h := cF hb5 h
      refine Stk.ex rfl ?_
      exact Stk.ln 0 (by decide) (hJ3 _ _ _ ⟨h, by simp [-splice, f1, f2, f5, b_b1, ld_39_5_37], b_b1, l_b1⟩)
   clear h f1 f2 f17 b_b1 l_b1
   rintro t H n ⟨h, f2, b_b1, l_b1⟩
   subst hK3
   refine evY_sound (f := 12) ?_; simp [-splice, f2, b_b1, ld_39_0_3]
   refine Stk.cond (a0.Kind == 0) (by simp [-splice, f2, b_b1, ld_39_0_3]) (fun hb9 => ?_) (fun hb9 => ?_)
   ·have h := cT hb9 h
    refine evY_sound (f := 6) ?_; simp [-splice, f2, b_b1, ld_39_0_3, ld_39_3_9]
    refine Stk.gd 5 45 50 (fun z => .sc (.bool (z && ((a0.Kids.length : Int) == 0)))) (w := (a0.Name.toList == (⟨#[]⟩ : ByteArray).toList)) (by simp [-splice, f2, b_b1, ld_39_0_3, ld_39_3_9]) (by simp [-splice, f2, b_b1, ld_39_0_3, ld_39_3_9, ld_39_5_37]) (by simp [-splice, f2, b_b1, ld_39_0_3, ld_39_3_9, ld_39_5_37]) ?_; simp [-splice, f2, b_b1, ld_39_0_3, ld_39_3_9]
    refine evY_sound (f := 3) ?_; simp [-splice, f2, b_b1, ld_39_0_3, ld_39_3_9]
    have hq := Option.some.inj h; subst hq
    exact (hr _ _ _ (.sc (.bool ((a0.Name.toList == (⟨#[]⟩ : ByteArray).toList) && ((a0.Kids.length : Int) == 0)))) ([]) (by simp [-splice, f2, b_b1, ld_39_0_3, ld_39_3_9]) (.inr (.inr (.free (rfl))))).1
   ·have h := cF hb9 h
    refine evY_sound (f := 5) ?_; simp [-splice, f2, b_b1, ld_39_0_3]
    refine Stk.cond (a0.Kind == 1) (by simp [-splice, f2, b_b1, ld_39_0_3]) (fun hb10 => ?_) (fun hb10 => ?_)
    ·have h := cT hb10 h
     obtain ⟨x11, hx11, h⟩ := bnd h
     refine evY_sound (f := 4) ?_; simp [-splice, f2, b_b1, ld_39_0_3, ld_39_3_9]
     refine Stk.cv (g := 45) (args := [.sc (.string a0.Name), .sc (.bool false)]) (args' := [.sc (.string a0.Name), .sc (.bool false)]) (v := .sc (.bool x11)) [] (ok_R03_Named F _ _ _ hx11) (by simp [-splice, f2, b_b1, ld_39_0_3, ld_39_3_9]) rfl rfl (by simp [-splice, f2, b_b1, ld_39_0_3, ld_39_3_9]) (.cons (.free (rfl)) (.cons (.free (rfl)) (.nil))) (.inl ⟨rfl, rfl⟩) (fun t' ht' => ?_)
     subst ht'
     refine evY_sound (f := 1) ?_; simp [-splice, f2, b_b1, ld_39_0_3, ld_39_3_9]
     refine Stk.gd 5 56 61 (fun z => .sc (.bool (z && ((a0.Kids.length : Int) == 0)))) (w := x11) (by simp [-splice, f2, b_b1, ld_39_0_3, ld_39_3_9]) (by simp [-splice, f2, b_b1, ld_39_0_3, ld_39_3_9, ld_39_5_37]) (by simp [-splice, f2, b_b1, ld_39_0_3, ld_39_3_9, ld_39_5_37]) ?_; simp [-splice, f2, b_b1, ld_39_0_3, ld_39_3_9]
     refine evY_sound (f := 3) ?_; simp [-splice, f2, b_b1, ld_39_0_3, ld_39_3_9]
     have hq := Option.some.inj h; subst hq
     exact (hr _ _ _ (.sc (.bool (x11 && ((a0.Kids.length : Int) == 0)))) ([]) (by simp [-splice, f2, b_b1, ld_39_0_3, ld_39_3_9]) (.inr (.inr (.free (rfl))))).1
    ·have h := cF hb10 h
     refine evY_sound (f := 5) ?_; simp [-splice, f2, b_b1, ld_39_0_3]
     refine Stk.cond (a0.Kind == 2) (by simp [-splice, f2, b_b1, ld_39_0_3]) (fun hb12 => ?_) (fun hb12 => ?_)
     ·have h := cT hb12 h
      refine evY_sound (f := 6) ?_; simp [-splice, f2, b_b1, ld_39_0_3, ld_39_3_9]
      refine Stk.gd 5 67 72 (fun z => .sc (.bool (z && ((a0.Kids.length : Int) == 0)))) (w := (a0.Name.toList == (⟨#[]⟩ : ByteArray).toList)) (by simp [-splice, f2, b_b1, ld_39_0_3, ld_39_3_9]) (by simp [-splice, f2, b_b1, ld_39_0_3, ld_39_3_9, ld_39_5_37]) (by simp [-splice, f2, b_b1, ld_39_0_3, ld_39_3_9, ld_39_5_37]) ?_; simp [-splice, f2, b_b1, ld_39_0_3, ld_39_3_9]
      refine evY_sound (f := 1) ?_; simp [-splice, f2, b_b1, ld_39_0_3, ld_39_3_9]
      refine Stk.gen (fun t H n => t 2 = .own b1 0 ∧ t 73 = .sc (.bool ((a0.Name.toList == (⟨#[]⟩ : ByteArray).toList) && ((a0.Kids.length : Int) == 0))) ∧ H b1 = some (.cells (c39 a0) 39) ∧ b1 < n) (by and_intros <;> first | assumption | simp [-splice, f2, b_b1, ld_39_0_3, ld_39_3_9]) ?_
      clear f2 b_b1 l_b1
      rintro t H n ⟨f2, f73, b_b1, l_b1⟩
      obtain ⟨K5, hK5, h⟩ := jnd h
      refine Stk.jo 4 (fun t H n => ∃ v13 : Bool, K5 v13 = some r ∧ t 77 = .sc (.bool v13)) (fun J5 hJ5 => ?_) ?_
      · rcases Bool.eq_false_or_eq_true ((a0.Name.toList == (⟨#[]⟩ : ByteArray).toList) && ((a0.Kids.length : Int) == 0)) with hb5 | hb5
        · rw [hb5] at f73
          replace h := cT hb5 h
          obtain ⟨x14, hx14, h⟩ := bnd h
          refine evY_sound (f := 2) ?_; simp [-splice, f2, f73, b_b1, ld_39_4_2]
          refine Stk.cv (g := 128) (args := [.sc (.int .i64 a0.Num)]) (args' := [.sc (.int .i64 a0.Num)]) (v := .sc (.bool x14)) [] (ok_R04_number F _ _ hx14) (by simp [-splice, f2, f73, b_b1, ld_39_4_2]) rfl rfl (by simp [-splice, f2, f73, b_b1, ld_39_4_2]) (.cons (.free (rfl)) (.nil)) (.inl ⟨rfl, rfl⟩) (fun t' ht' => ?_)
          subst ht'
          refine evY_sound (f := 2) ?_; simp [-splice, f2, f73, b_b1, ld_39_4_2]
          exact Stk.ln 0 (by decide) (hJ5 _ _ _ ⟨x14, h, by simp [-splice, f2, f73, b_b1, ld_39_4_2]⟩)
        · rw [hb5] at f73
          replace h := cF hb5 h
          refine evY_sound (f := 5) ?_; simp [-splice, f2, f73, b_b1]
          exact Stk.ln 0 (by decide) (hJ5 _ _ _ ⟨false, h, by simp [-splice, f2, f73, b_b1]⟩)
      clear h f2 f73 b_b1 l_b1
      rintro t H n ⟨v13, h, f77⟩
      subst hK5
      refine evY_sound (f := 3) ?_; simp [-splice, f77]
      have hq := Option.some.inj h; subst hq
      exact (hr _ _ _ (.sc (.bool v13)) ([]) (by simp [-splice, f77]) (.inr (.inr (.free (rfl))))).1
     ·have h := cF hb12 h
      refine evY_sound (f := 5) ?_; simp [-splice, f2, b_b1, ld_39_0_3]
      refine Stk.cond (a0.Kind == 3) (by simp [-splice, f2, b_b1, ld_39_0_3]) (fun hb15 => ?_) (fun hb15 => ?_)
      ·have h := cT hb15 h
       obtain ⟨x16, hx16, h⟩ := bnd h
       refine evY_sound (f := 4) ?_; simp [-splice, f2, b_b1, ld_39_0_3, ld_39_3_9]
       refine Stk.cv (g := 45) (args := [.sc (.string a0.Name), .sc (.bool true)]) (args' := [.sc (.string a0.Name), .sc (.bool true)]) (v := .sc (.bool x16)) [] (ok_R03_Named F _ _ _ hx16) (by simp [-splice, f2, b_b1, ld_39_0_3, ld_39_3_9]) rfl rfl (by simp [-splice, f2, b_b1, ld_39_0_3, ld_39_3_9]) (.cons (.free (rfl)) (.cons (.free (rfl)) (.nil))) (.inl ⟨rfl, rfl⟩) (fun t' ht' => ?_)
       subst ht'
       refine evY_sound (f := 1) ?_; simp [-splice, f2, b_b1, ld_39_0_3, ld_39_3_9]
       refine Stk.gd 5 83 88 (fun z => .sc (.bool (z && (decide ((a0.Kids.length : Int) ≤ 6))))) (w := x16) (by simp [-splice, f2, b_b1, ld_39_0_3, ld_39_3_9]) (by simp [-splice, f2, b_b1, ld_39_0_3, ld_39_3_9, ld_39_5_37]) (by simp [-splice, f2, b_b1, ld_39_0_3, ld_39_3_9, ld_39_5_37]) ?_; simp [-splice, f2, b_b1, ld_39_0_3, ld_39_3_9]
       refine evY_sound (f := 3) ?_; simp [-splice, f2, b_b1, ld_39_0_3, ld_39_3_9]
       have hq := Option.some.inj h; subst hq
       exact (hr _ _ _ (.sc (.bool (x16 && (decide ((a0.Kids.length : Int) ≤ 6))))) ([]) (by simp [-splice, f2, b_b1, ld_39_0_3, ld_39_3_9]) (.inr (.inr (.free (rfl))))).1
      ·have h := cF hb15 h
       refine evY_sound (f := 5) ?_; simp [-splice, f2, b_b1, ld_39_0_3]
       refine Stk.cond (a0.Kind == 4) (by simp [-splice, f2, b_b1, ld_39_0_3]) (fun hb17 => ?_) (fun hb17 => ?_)
       ·have h := cT hb17 h
        refine evY_sound (f := 6) ?_; simp [-splice, f2, b_b1, ld_39_0_3, ld_39_3_9]
        refine Stk.gd 5 94 99 (fun z => .sc (.bool (z && (decide (2 ≤ (a0.Kids.length : Int)))))) (w := (a0.Name.toList == (⟨#[]⟩ : ByteArray).toList)) (by simp [-splice, f2, b_b1, ld_39_0_3, ld_39_3_9]) (by simp [-splice, f2, b_b1, ld_39_0_3, ld_39_3_9, ld_39_5_37]) (by simp [-splice, f2, b_b1, ld_39_0_3, ld_39_3_9, ld_39_5_37]) ?_; simp [-splice, f2, b_b1, ld_39_0_3, ld_39_3_9]
        refine evY_sound (f := 1) ?_; simp [-splice, f2, b_b1, ld_39_0_3, ld_39_3_9]
        refine Stk.gd 5 100 105 (fun z => .sc (.bool (z && (decide ((a0.Kids.length : Int) ≤ 6))))) (w := ((a0.Name.toList == (⟨#[]⟩ : ByteArray).toList) && (decide (2 ≤ (a0.Kids.length : Int))))) (by simp [-splice, f2, b_b1, ld_39_0_3, ld_39_3_9]) (by simp [-splice, f2, b_b1, ld_39_0_3, ld_39_3_9, ld_39_5_37]) (by simp [-splice, f2, b_b1, ld_39_0_3, ld_39_3_9, ld_39_5_37]) ?_; simp [-splice, f2, b_b1, ld_39_0_3, ld_39_3_9]
        refine evY_sound (f := 3) ?_; simp [-splice, f2, b_b1, ld_39_0_3, ld_39_3_9]
        have hq := Option.some.inj h; subst hq
        exact (hr _ _ _ (.sc (.bool (((a0.Name.toList == (⟨#[]⟩ : ByteArray).toList) && (decide (2 ≤ (a0.Kids.length : Int)))) && (decide ((a0.Kids.length : Int) ≤ 6))))) ([]) (by simp [-splice, f2, b_b1, ld_39_0_3, ld_39_3_9]) (.inr (.inr (.free (rfl))))).1
       ·have h := cF hb17 h
        refine evY_sound (f := 7) ?_; simp [-splice, f2, b_b1, ld_39_0_3]
        have hq := Option.some.inj h; subst hq
        exact (hr _ _ _ (.sc (.bool false)) ([]) (by simp [-splice, f2, b_b1, ld_39_0_3]) (.inr (.inr (.free (rfl))))).1
theorem okG_R04_fitPat : ∀ F : Nat, (∀ (a0 : api_Pat) (a1 : Int) (r : Bool), R04_fitPat F a0 a1 = some r → RunF Tryz.prog T.T 50 [.agg (c39 a0), .sc (.int .i64 a1)] (.sc (.bool r)))
  | 0 => (fun a0 a1 r h => by rw [R04_fitPat] at h; cases h)
  | F + 1 => (fun a0 a1 r h => okB_R04_fitPat F (R04_fitPat F) (okG_R04_fitPat F) a0 a1 r (by rw [R04_fitPat] at h; exact h))
theorem ok_R04_fitPat (F : Nat) (a0 : api_Pat) (a1 : Int) (r : Bool) (h : R04_fitPat F a0 a1 = some r) : RunF Tryz.prog T.T 50 [.agg (c39 a0), .sc (.int .i64 a1)] (.sc (.bool r)) := (okG_R04_fitPat F) a0 a1 r h
theorem okB_R04_fitExpr (F : Nat) (ρ48 : api_Expr → Int → Option Bool) (hρ48 : ∀ a0 a1 r, ρ48 a0 a1 = some r → RunF Tryz.prog T.T 48 [.agg (c33 a0), .sc (.int .i64 a1)] (.sc (.bool r))) (a0 : api_Expr) (a1 : Int) (r : Bool) (h : R04_fitExpr_B F ρ48 a0 a1 = some r) : RunF Tryz.prog T.T 48 [.agg (c33 a0), .sc (.int .i64 a1)] (.sc (.bool r)) := by
  rw [R04_fitExpr_B] at h
  refine RunF.z Tryz.func48 rfl rfl rfl rfl rfl (fun C hr => ?_)
  refine Stk.gen (fun t H n => t 0 = .agg (c33 a0) ∧ t 1 = .sc (.int .i64 a1)) ⟨by simp, by simp⟩ ?_
  rintro t H n ⟨f0, f1⟩
  refine evY_sound (f := 2) ?_; simp [-splice, f0, f1]
  refine Stk.gen (fun t H n => t 0 = .agg (c33 a0) ∧ t 1 = .sc (.int .i64 a1)) (by and_intros <;> first | assumption | simp [-splice, f0, f1]) ?_
  clear f0 f1
  rintro t H n ⟨f0, f1⟩
  refine Stk.om (mop_box T.t33 (cs := c33 a0) (by show partOk (t 0) = true; rw [f0]; rfl) (by show cellsOf (t 0) = _; rw [f0]; rfl)) (by simp [f0, f1]) rfl (fun t' ht' => ?_)
  refine Stk.gen (fun t H n => ∃ b1, t 1 = .sc (.int .i64 a1) ∧ t 2 = .own b1 0 ∧ H b1 = some (.cells (c33 a0) 33) ∧ b1 < n) ⟨n, by simp [ht', f1], by simp [ht'], upd_same _ _ _, Nat.lt_succ_self _⟩ ?_
  clear f0 f1 ht' t'
  rintro t H n ⟨b1, f1, f2, b_b1, l_b1⟩
  refine evY_sound (f := 8) ?_; simp [-splice, f1, f2, b_b1]
  refine Stk.gen (fun t H n => t 1 = .sc (.int .i64 a1) ∧ t 2 = .own b1 0 ∧ t 9 = .sc (.bool (decide (a1 < 1))) ∧ H b1 = some (.cells (c33 a0) 33) ∧ b1 < n) (by and_intros <;> first | assumption | simp [-splice, f1, f2, b_b1]) ?_
  clear f1 f2 b_b1 l_b1
  rintro t H n ⟨f1, f2, f9, b_b1, l_b1⟩
  obtain ⟨K1, hK1, h⟩ := jnd h
  refine Stk.jo 4 (fun t H n => ∃ v2 : Bool, K1 v2 = some r ∧ t 1 = .sc (.int .i64 a1) ∧ t 2 = .own b1 0 ∧ t 13 = .sc (.bool v2) ∧ H b1 = some (.cells (c33 a0) 33) ∧ b1 < n) (fun J1 hJ1 => ?_) ?_
  · rcases Bool.eq_false_or_eq_true (decide (a1 < 1)) with hb1 | hb1
    · rw [hb1] at f9
      replace h := cT hb1 h
      refine evY_sound (f := 5) ?_; simp [-splice, f1, f2, f9, b_b1]
      exact Stk.ln 0 (by decide) (hJ1 _ _ _ ⟨true, h, by and_intros <;> first | assumption | simp [-splice, f1, f2, f9, b_b1]⟩)
    · rw [hb1] at f9
      replace h := cF hb1 h
      obtain ⟨x3, hx3, h⟩ := bnd h
      refine evY_sound (f := 1) ?_; simp [-splice, f1, f2, f9, b_b1, ld_33_0_33]
      refine Stk.cv (g := 124) (args := [.agg (c33 a0)]) (args' := [.agg (c33 a0)]) (v := .sc (.bool x3)) [] (ok_R04_alone F _ _ hx3) (by simp [-splice, f1, f2, f9, b_b1, ld_33_0_33]) rfl rfl (by simp [-splice, f1, f2, f9, b_b1, ld_33_0_33]) (.cons (.free (fr33 _)) (.nil)) (.inl ⟨rfl, rfl⟩) (fun t' ht' => ?_)
      subst ht'
      refine evY_sound (f := 3) ?_; simp [-splice, f1, f2, f9, b_b1, ld_33_0_33]
      exact Stk.ln 0 (by decide) (hJ1 _ _ _ ⟨(!x3), h, by and_intros <;> first | assumption | simp [-splice, f1, f2, f9, b_b1, ld_33_0_33]⟩)
  clear h f1 f2 f9 b_b1 l_b1
  rintro t H n ⟨v2, h, f1, f2, f13, b_b1, l_b1⟩
  subst hK1
  refine evY_sound (f := 1) ?_; simp [-splice, f1, f2, f13, b_b1]
  refine Stk.cond v2 (by simp [-splice, f1, f2, f13, b_b1]) (fun hb4 => ?_) (fun hb4 => ?_)
  ·have h := cT hb4 h
   refine evY_sound (f := 5) ?_; simp [-splice, f1, f2, f13, b_b1]
   have hq := Option.some.inj h; subst hq
   exact (hr _ _ _ (.sc (.bool false)) ([]) (by simp [-splice, f1, f2, f13, b_b1]) (.inr (.inr (.free (rfl))))).1
  ·have h := cF hb4 h
   refine evY_sound (f := 6) ?_; simp [-splice, f1, f2, f13, b_b1]
   obtain ⟨K2, hK2, h⟩ := jnd h
   refine Stk.jn (fun t H n => K2 () = some r ∧ t 1 = .sc (.int .i64 a1) ∧ t 2 = .own b1 0 ∧ H b1 = some (.cells (c33 a0) 33) ∧ b1 < n) trivial (fun J2 hJ2 => ?_) ?_
   · skip
     refine evY_sound (f := 1) ?_; simp [-splice, f1, f2, f13, b_b1]
     refine Stk.gen (fun t H n => t 1 = .sc (.int .i64 a1) ∧ t 2 = .own b1 0 ∧ t 5 = .sc (.int .i64 0) ∧ H b1 = some (.cells (c33 a0) 33) ∧ b1 < n) (by and_intros <;> first | assumption | simp [-splice, f1, f2, f13, b_b1]) ?_
     clear f1 f2 f13 b_b1 l_b1
     rintro t H n ⟨f1, f2, f5, b_b1, l_b1⟩
     refine Stk.lo (fun μ t H n => ∃ v5 : Int, R04_fitExpr_L0 F ρ48 a0 a1 K2 μ v5 = some r ∧ t 1 = .sc (.int .i64 a1) ∧ t 2 = .own b1 0 ∧ t 5 = .sc (.int .i64 v5) ∧ H b1 = some (.cells (c33 a0) 33) ∧ b1 < n) F ⟨0, h, f1, f2, f5, b_b1, l_b1⟩ ?_
     clear h f1 f2 f5 b_b1 l_b1
     rintro J3 hJ3 μ t H n ⟨v5, h, f1, f2, f5, b_b1, l_b1⟩
     cases μ with
     | zero => exact absurd h (by simp [R04_fitExpr_L0])
     | succ μ =>
     rw [R04_fitExpr_L0] at h
     refine evY_sound (f := 9) ?_; simp [-splice, f1, f2, f5, b_b1, ld_33_6_30]
     refine Stk.cond (decide (v5 < (a0.Kids.length : Int))) (by simp [-splice, f1, f2, f5, b_b1, ld_33_6_30]) (fun hb7 => ?_) (fun hb7 => ?_)
     ·have h := cT hb7 h
      obtain ⟨x8, hx8, h⟩ := bnd h
      obtain ⟨i0x8, i1x8, i2x8, _⟩ := idx_ok hx8
      have ex8_0_33 : partOf T.T 33 (encs c33 a0.Kids) (v5.toNat * 8) = some (.agg (c33 x8)) := by
          have e0 := part_elem0 (e := c33) (z := 8) (T := T.T) (ty := 33) T.t33 (by decide) (by decide) hx8 0 (by decide)
          (try simp only [Nat.mul_one, Nat.add_zero] at e0)
          exact e0.trans (ld_33_0_33 _)
      obtain ⟨x9, hx9, h⟩ := bnd h
      refine evY_sound (f := 12) ?_; simp [-splice, f1, f2, f5, b_b1, ld_33_6_30, i0x8, i1x8, pd33, ex8_0_33]
      refine Stk.cv (g := 48) (args := [.agg (c33 x8), .sc (.int .i64 (IntKind.i64.wrap (a1 - 1)))]) (args' := [.agg (c33 x8), .sc (.int .i64 (IntKind.i64.wrap (a1 - 1)))]) (v := .sc (.bool x9)) [] (hρ48 _ _ _ hx9) (by simp [-splice, f1, f2, f5, b_b1, ld_33_6_30, i0x8, i1x8, pd33, ex8_0_33]) rfl rfl (by simp [-splice, f1, f2, f5, b_b1, ld_33_6_30, i0x8, i1x8, pd33, ex8_0_33]) (.cons (.free (fr33 _)) (.cons (.free (rfl)) (.nil))) (.inl ⟨rfl, rfl⟩) (fun t' ht' => ?_)
      subst ht'
      refine evY_sound (f := 2) ?_; simp [-splice, f1, f2, f5, b_b1, ld_33_6_30, i0x8, i1x8, pd33, ex8_0_33]
      refine Stk.cond (!x9) (by simp [-splice, f1, f2, f5, b_b1, ld_33_6_30, i0x8, i1x8, pd33, ex8_0_33]) (fun hb10 => ?_) (fun hb10 => ?_)
      ·have h := cT hb10 h
       refine evY_sound (f := 5) ?_; simp [-splice, f1, f2, f5, b_b1, ld_33_6_30, i0x8, i1x8, pd33, ex8_0_33]
       have hq := Option.some.inj h; subst hq
       exact (hr _ _ _ (.sc (.bool false)) ([]) (by simp [-splice, f1, f2, f5, b_b1, ld_33_6_30, i0x8, i1x8, pd33, ex8_0_33]) (.inr (.inr (.free (rfl))))).1
      ·have h := cF hb10 h
       refine evY_sound (f := 7) ?_; simp [-splice, f1, f2, f5, b_b1, ld_33_6_30, i0x8, i1x8, pd33, ex8_0_33]
       exact Stk.ln μ (Nat.lt_succ_self _) (hJ3 _ _ _ _ ⟨(IntKind.i64.wrap (v5 + 1)), h, by and_intros <;> first | assumption | simp [-splice, f1, f2, f5, b_b1, ld_33_6_30, i0x8, i1x8, pd33, ex8_0_33]⟩)
     ·have h := cF hb7 h
      refine Stk.ex rfl ?_
      exact Stk.ln 0 (by decide) (hJ2 _ _ _ ⟨h, by and_intros <;> first | assumption | simp [-splice, f1, f2, f5, b_b1, ld_33_6_30]⟩)
   clear h f1 f2 f13 b_b1 l_b1
   rintro t H n ⟨h, f1, f2, b_b1, l_b1⟩
   subst hK2
   refine evY_sound (f := 6) ?_; simp [-splice, f1, f2, b_b1]
   refine Stk.gen (fun t H n => t 1 = .sc (.int .i64 a1) ∧ t 2 = .own b1 0 ∧ t 6 = .sc (.int .i64 0) ∧ H b1 = some (.cells (c33 a0) 33) ∧ b1 < n) (by and_intros <;> first | assumption | simp [-splice, f1, f2, b_b1]) ?_
   clear f1 f2 b_b1 l_b1
   rintro t H n ⟨f1, f2, f6, b_b1, l_b1⟩
   refine Stk.lo (fun μ t H n => ∃ v11 : Int, R04_fitExpr_L1 F ρ48 a0 a1 μ v11 = some r ∧ t 1 = .sc (.int .i64 a1) ∧ t 2 = .own b1 0 ∧ t 6 = .sc (.int .i64 v11) ∧ H b1 = some (.cells (c33 a0) 33) ∧ b1 < n) F ⟨0, h, f1, f2, f6, b_b1, l_b1⟩ ?_
   clear h f1 f2 f6 b_b1 l_b1
   rintro J4 hJ4 μ t H n ⟨v11, h, f1, f2, f6, b_b1, l_b1⟩
   cases μ with
   | zero => exact absurd h (by simp [R04_fitExpr_L1])
   | succ μ =>
   rw [R04_fitExpr_L1] at h
   refine evY_sound (f := 9) ?_; simp [-splice, f1, f2, f6, b_b1, ld_33_7_31]
   refine Stk.cond (decide (v11 < (a0.Arms.length : Int))) (by simp [-splice, f1, f2, f6, b_b1, ld_33_7_31]) (fun hb13 => ?_) (fun hb13 => ?_)
   ·have h := cT hb13 h
    obtain ⟨x14, hx14, h⟩ := bnd h
    obtain ⟨i0x14, i1x14, i2x14, _⟩ := idx_ok hx14
    have ex14_0_39 : partOf T.T 39 (encs c68 a0.Arms) (v11.toNat * 14) = some (.agg (c39 x14.Pat)) := by
        have e0 := part_elem0 (e := c68) (z := 14) (T := T.T) (ty := 39) T.t39 (by decide) (by decide) hx14 0 (by decide)
        (try simp only [Nat.mul_one, Nat.add_zero] at e0)
        exact e0.trans (ld_68_0_39 _)
    obtain ⟨x15, hx15, h⟩ := bnd h
    refine evY_sound (f := 13) ?_; simp [-splice, f1, f2, f6, b_b1, ld_33_7_31, i0x14, i1x14, pd39, ex14_0_39]
    refine Stk.cv (g := 50) (args := [.agg (c39 x14.Pat), .sc (.int .i64 (IntKind.i64.wrap (a1 - 1)))]) (args' := [.agg (c39 x14.Pat), .sc (.int .i64 (IntKind.i64.wrap (a1 - 1)))]) (v := .sc (.bool x15)) [] (ok_R04_fitPat F _ _ _ hx15) (by simp [-splice, f1, f2, f6, b_b1, ld_33_7_31, i0x14, i1x14, pd39, ex14_0_39]) rfl rfl (by simp [-splice, f1, f2, f6, b_b1, ld_33_7_31, i0x14, i1x14, pd39, ex14_0_39]) (.cons (.free (fr39 _)) (.cons (.free (rfl)) (.nil))) (.inl ⟨rfl, rfl⟩) (fun t' ht' => ?_)
    subst ht'
    refine evY_sound (f := 2) ?_; simp [-splice, f1, f2, f6, b_b1, ld_33_7_31, i0x14, i1x14, pd39, ex14_0_39]
    refine Stk.gen (fun t H n => t 1 = .sc (.int .i64 a1) ∧ t 2 = .own b1 0 ∧ t 6 = .sc (.int .i64 v11) ∧ t 47 = .sc (.bool (!x15)) ∧ H b1 = some (.cells (c33 a0) 33) ∧ b1 < n) (by and_intros <;> first | assumption | simp [-splice, f1, f2, f6, b_b1, ld_33_7_31, i0x14, i1x14, pd39, ex14_0_39]) ?_
    clear f1 f2 f6 b_b1 l_b1
    rintro t H n ⟨f1, f2, f6, f47, b_b1, l_b1⟩
    obtain ⟨K5, hK5, h⟩ := jnd h
    refine Stk.jo 11 (fun t H n => ∃ v16 : Bool, K5 v16 = some r ∧ t 1 = .sc (.int .i64 a1) ∧ t 2 = .own b1 0 ∧ t 6 = .sc (.int .i64 v11) ∧ t 58 = .sc (.bool v16) ∧ H b1 = some (.cells (c33 a0) 33) ∧ b1 < n) (fun J5 hJ5 => ?_) ?_
    · rcases Bool.eq_false_or_eq_true (!x15) with hb5 | hb5
      · rw [hb5] at f47
        replace h := cT hb5 h
        refine evY_sound (f := 12) ?_; simp [-splice, f1, f2, f6, f47, b_b1]
        exact Stk.ln 0 (by decide) (hJ5 _ _ _ ⟨true, h, by and_intros <;> first | assumption | simp [-splice, f1, f2, f6, f47, b_b1]⟩)
      · rw [hb5] at f47
        replace h := cF hb5 h
        obtain ⟨x17, hx17, h⟩ := bnd h
        obtain ⟨i0x17, i1x17, i2x17, _⟩ := idx_ok hx17
        have ex17_6_33 : partOf T.T 33 (encs c68 a0.Arms) (v11.toNat * 14 + 6) = some (.agg (c33 x17.Body)) := by
            have e0 := part_elem0 (e := c68) (z := 14) (T := T.T) (ty := 33) T.t33 (by decide) (by decide) hx17 6 (by decide)
            (try simp only [Nat.mul_one, Nat.add_zero] at e0)
            exact e0.trans (ld_68_6_33 _)
        obtain ⟨x18, hx18, h⟩ := bnd h
        refine evY_sound (f := 8) ?_; simp [-splice, f1, f2, f6, f47, b_b1, ld_33_7_31, i0x17, i1x17, pd33, ex17_6_33]
        refine Stk.cv (g := 48) (args := [.agg (c33 x17.Body), .sc (.int .i64 (IntKind.i64.wrap (a1 - 1)))]) (args' := [.agg (c33 x17.Body), .sc (.int .i64 (IntKind.i64.wrap (a1 - 1)))]) (v := .sc (.bool x18)) [] (hρ48 _ _ _ hx18) (by simp [-splice, f1, f2, f6, f47, b_b1, ld_33_7_31, i0x17, i1x17, pd33, ex17_6_33]) rfl rfl (by simp [-splice, f1, f2, f6, f47, b_b1, ld_33_7_31, i0x17, i1x17, pd33, ex17_6_33]) (.cons (.free (fr33 _)) (.cons (.free (rfl)) (.nil))) (.inl ⟨rfl, rfl⟩) (fun t' ht' => ?_)
        subst ht'
        refine evY_sound (f := 3) ?_; simp [-splice, f1, f2, f6, f47, b_b1, ld_33_7_31, i0x17, i1x17, pd33, ex17_6_33]
        exact Stk.ln 0 (by decide) (hJ5 _ _ _ ⟨(!x18), h, by and_intros <;> first | assumption | simp [-splice, f1, f2, f6, f47, b_b1, ld_33_7_31, i0x17, i1x17, pd33, ex17_6_33]⟩)
    clear h f1 f2 f6 f47 b_b1 l_b1
    rintro t H n ⟨v16, h, f1, f2, f6, f58, b_b1, l_b1⟩
    subst hK5
    refine evY_sound (f := 1) ?_; simp [-splice, f1, f2, f6, f58, b_b1]
    refine Stk.cond v16 (by simp [-splice, f1, f2, f6, f58, b_b1]) (fun hb19 => ?_) (fun hb19 => ?_)
    ·have h := cT hb19 h
     refine evY_sound (f := 5) ?_; simp [-splice, f1, f2, f6, f58, b_b1]
     have hq := Option.some.inj h; subst hq
     exact (hr _ _ _ (.sc (.bool false)) ([]) (by simp [-splice, f1, f2, f6, f58, b_b1]) (.inr (.inr (.free (rfl))))).1
    ·have h := cF hb19 h
     refine evY_sound (f := 7) ?_; simp [-splice, f1, f2, f6, f58, b_b1]
     exact Stk.ln μ (Nat.lt_succ_self _) (hJ4 _ _ _ _ ⟨(IntKind.i64.wrap (v11 + 1)), h, by and_intros <;> first | assumption | simp [-splice, f1, f2, f6, f58, b_b1]⟩)
   ·have h := cF hb13 h
    refine Stk.ex rfl ?_
    refine evY_sound (f := 5) ?_; simp [-splice, f1, f2, f6, b_b1, ld_33_7_31]
    have hq := Option.some.inj h; subst hq
    exact (hr _ _ _ (.sc (.bool true)) ([]) (by simp [-splice, f1, f2, f6, b_b1, ld_33_7_31]) (.inr (.inr (.free (rfl))))).1
theorem okG_R04_fitExpr : ∀ F : Nat, (∀ (a0 : api_Expr) (a1 : Int) (r : Bool), R04_fitExpr F a0 a1 = some r → RunF Tryz.prog T.T 48 [.agg (c33 a0), .sc (.int .i64 a1)] (.sc (.bool r)))
  | 0 => (fun a0 a1 r h => by rw [R04_fitExpr] at h; cases h)
  | F + 1 => (fun a0 a1 r h => okB_R04_fitExpr F (R04_fitExpr F) (okG_R04_fitExpr F) a0 a1 r (by rw [R04_fitExpr] at h; exact h))
theorem ok_R04_fitExpr (F : Nat) (a0 : api_Expr) (a1 : Int) (r : Bool) (h : R04_fitExpr F a0 a1 = some r) : RunF Tryz.prog T.T 48 [.agg (c33 a0), .sc (.int .i64 a1)] (.sc (.bool r)) := (okG_R04_fitExpr F) a0 a1 r h
theorem ok_R04_FitExpr (F : Nat) (a0 : api_Expr) (r : Bool) (h : R04_FitExpr F a0 = some r) : RunF Tryz.prog T.T 15 [.agg (c33 a0)] (.sc (.bool r)) := by
  rw [R04_FitExpr] at h
  refine RunF.z Tryz.func15 rfl rfl rfl rfl rfl (fun C hr => ?_)
  refine Stk.gen (fun t H n => t 0 = .agg (c33 a0)) (by simp) ?_
  rintro t H n f0
  refine evY_sound (f := 2) ?_; simp [-splice, f0]
  refine Stk.gen (fun t H n => t 0 = .agg (c33 a0)) (by simp [-splice, f0]) ?_
  clear f0
  rintro t H n f0
  refine Stk.om (mop_box T.t33 (cs := c33 a0) (by show partOk (t 0) = true; rw [f0]; rfl) (by show cellsOf (t 0) = _; rw [f0]; rfl)) (by simp [f0]) rfl (fun t' ht' => ?_)
  refine Stk.gen (fun t H n => ∃ b1, t 1 = .own b1 0 ∧ H b1 = some (.cells (c33 a0) 33) ∧ b1 < n) ⟨n, by simp [ht'], upd_same _ _ _, Nat.lt_succ_self _⟩ ?_
  clear f0 ht' t'
  rintro t H n ⟨b1, f1, b_b1, l_b1⟩
  obtain ⟨x2, hx2, h⟩ := bnd h
  refine evY_sound (f := 5) ?_; simp [-splice, f1, b_b1, ld_33_0_33]
  refine Stk.cv (g := 48) (args := [.agg (c33 a0), .sc (.int .i64 64)]) (args' := [.agg (c33 a0), .sc (.int .i64 64)]) (v := .sc (.bool x2)) [] (ok_R04_fitExpr F _ _ _ hx2) (by simp [-splice, f1, b_b1, ld_33_0_33]) rfl rfl (by simp [-splice, f1, b_b1, ld_33_0_33]) (.cons (.free (fr33 _)) (.cons (.free (rfl)) (.nil))) (.inl ⟨rfl, rfl⟩) (fun t' ht' => ?_)
  subst ht'
  refine evY_sound (f := 3) ?_; simp [-splice, f1, b_b1, ld_33_0_33]
  have hq := Option.some.inj h; subst hq
  exact (hr _ _ _ (.sc (.bool x2)) ([]) (by simp [-splice, f1, b_b1, ld_33_0_33]) (.inr (.inr (.free (rfl))))).1
end Go.Proofs.YtappiofmkoelnaaGreatDoor.M
end
section
namespace Go.Proofs.YtappiofmkoelnaaGreatDoor.M
open Go.Proofs.YtappiofmkoelnaaGreatDoorW.Ah Go.Proofs.YtappiofmkoelnaaGreatDoor
set_option linter.unusedVariables false
set_option linter.unusedSimpArgs false
set_option maxRecDepth 8000
attribute [local simp] T.t3 T.t4 T.t9 T.t22 T.t23 T.t24 T.t26 T.t33 T.t34 T.t36 T.t39 T.t70 T.t72 T.t75 T.t77 T.t81 T.t83 T.t87 T.t92 List.range List.range.loop
attribute [-simp] appendAV fillAV
theorem ok_R04_fitData (F : Nat) (a0 : api_Data) (r : Bool) (h : R04_fitData F a0 = some r) : RunF Tryz.prog T.T 43 [.agg (c72 a0)] (.sc (.bool r)) := by
  rw [R04_fitData] at h
  refine RunF.z Tryz.func43 rfl rfl rfl rfl rfl (fun C hr => ?_)
  refine Stk.gen (fun t H n => t 0 = .agg (c72 a0)) (by simp) ?_
  rintro t H n f0
  refine evY_sound (f := 2) ?_; simp [-splice, f0]
  refine Stk.gen (fun t H n => t 0 = .agg (c72 a0)) (by simp [-splice, f0]) ?_
  clear f0
  rintro t H n f0
  refine Stk.om (mop_box T.t72 (cs := c72 a0) (by show partOk (t 0) = true; rw [f0]; rfl) (by show cellsOf (t 0) = _; rw [f0]; rfl)) (by simp [f0]) rfl (fun t' ht' => ?_)
  refine Stk.gen (fun t H n => ∃ b1, t 1 = .own b1 0 ∧ H b1 = some (.cells (c72 a0) 72) ∧ b1 < n) ⟨n, by simp [ht'], upd_same _ _ _, Nat.lt_succ_self _⟩ ?_
  clear f0 ht' t'
  rintro t H n ⟨b1, f1, b_b1, l_b1⟩
  obtain ⟨x2, hx2, h⟩ := bnd h
  refine evY_sound (f := 7) ?_; simp [-splice, f1, b_b1, ld_72_2_9]
  refine Stk.cv (g := 113) (args := [.sc (.string a0.Name)]) (args' := [.sc (.string a0.Name)]) (v := .sc (.bool x2)) [] (ok_R04_Small F _ _ hx2) (by simp [-splice, f1, b_b1, ld_72_2_9]) rfl rfl (by simp [-splice, f1, b_b1, ld_72_2_9]) (.cons (.free (rfl)) (.nil)) (.inl ⟨rfl, rfl⟩) (fun t' ht' => ?_)
  subst ht'
  refine evY_sound (f := 2) ?_; simp [-splice, f1, b_b1, ld_72_2_9]
  refine Stk.gd 5 10 15 (fun z => .sc (.bool (z || (decide ((a0.Cons.length : Int) < 1))))) (w := (!x2)) (by simp [-splice, f1, b_b1, ld_72_2_9]) (by simp [-splice, f1, b_b1, ld_72_2_9, ld_72_3_70]) (by simp [-splice, f1, b_b1, ld_72_2_9, ld_72_3_70]) ?_; simp [-splice, f1, b_b1, ld_72_2_9]
  refine evY_sound (f := 1) ?_; simp [-splice, f1, b_b1, ld_72_2_9]
  refine Stk.gd 5 16 21 (fun z => .sc (.bool (z || (decide (16 < (a0.Cons.length : Int)))))) (w := ((!x2) || (decide ((a0.Cons.length : Int) < 1)))) (by simp [-splice, f1, b_b1, ld_72_2_9]) (by simp [-splice, f1, b_b1, ld_72_2_9, ld_72_3_70]) (by simp [-splice, f1, b_b1, ld_72_2_9, ld_72_3_70]) ?_; simp [-splice, f1, b_b1, ld_72_2_9]
  refine evY_sound (f := 1) ?_; simp [-splice, f1, b_b1, ld_72_2_9]
  refine Stk.cond (((!x2) || (decide ((a0.Cons.length : Int) < 1))) || (decide (16 < (a0.Cons.length : Int)))) (by simp [-splice, f1, b_b1, ld_72_2_9]) (fun hb3 => ?_) (fun hb3 => ?_)
  ·have h := cT hb3 h
   refine evY_sound (f := 5) ?_; simp [-splice, f1, b_b1, ld_72_2_9]
   have hq := Option.some.inj h; subst hq
   exact (hr _ _ _ (.sc (.bool false)) ([]) (by simp [-splice, f1, b_b1, ld_72_2_9]) (.inr (.inr (.free (rfl))))).1
  ·have h := cF hb3 h
   refine evY_sound (f := 7) ?_; simp [-splice, f1, b_b1, ld_72_2_9]
   refine Stk.gen (fun t H n => t 1 = .own b1 0 ∧ t 3 = .sc (.int .i64 0) ∧ H b1 = some (.cells (c72 a0) 72) ∧ b1 < n) (by and_intros <;> first | assumption | simp [-splice, f1, b_b1, ld_72_2_9]) ?_
   clear f1 b_b1 l_b1
   rintro t H n ⟨f1, f3, b_b1, l_b1⟩
   refine Stk.lo (fun μ t H n => ∃ v4 : Int, R04_fitData_L0 F a0 μ v4 = some r ∧ t 1 = .own b1 0 ∧ t 3 = .sc (.int .i64 v4) ∧ H b1 = some (.cells (c72 a0) 72) ∧ b1 < n) F ⟨0, h, f1, f3, b_b1, l_b1⟩ ?_
   clear h f1 f3 b_b1 l_b1
   rintro J1 hJ1 μ t H n ⟨v4, h, f1, f3, b_b1, l_b1⟩
   cases μ with
   | zero => exact absurd h (by simp [R04_fitData_L0])
   | succ μ =>
   rw [R04_fitData_L0] at h
   refine evY_sound (f := 9) ?_; simp [-splice, f1, f3, b_b1, ld_72_3_70]
   refine Stk.cond (decide (v4 < (a0.Cons.length : Int))) (by simp [-splice, f1, f3, b_b1, ld_72_3_70]) (fun hb6 => ?_) (fun hb6 => ?_)
   ·have h := cT hb6 h
    obtain ⟨x7, hx7, h⟩ := bnd h
    obtain ⟨i0x7, i1x7, i2x7, _⟩ := idx_ok hx7
    have ex7_0_92 : partOf T.T 92 (encs c92 a0.Cons) (v4.toNat * 2) = some (.agg (c92 x7)) := by
        have e0 := part_elem0 (e := c92) (z := 2) (T := T.T) (ty := 92) T.t92 (by decide) (by decide) hx7 0 (by decide)
        (try simp only [Nat.mul_one, Nat.add_zero] at e0)
        exact e0.trans (ld_92_0_92 _)
    refine evY_sound (f := 10) ?_; simp [-splice, f1, f3, b_b1, ld_72_3_70, i0x7, i1x7, pd92, ex7_0_92]
    refine Stk.gen (fun t H n => t 1 = .own b1 0 ∧ t 3 = .sc (.int .i64 v4) ∧ t 33 = .agg (c92 x7) ∧ H b1 = some (.cells (c72 a0) 72) ∧ b1 < n) (by and_intros <;> first | assumption | simp [-splice, f1, f3, b_b1, ld_72_3_70, i0x7, i1x7, pd92, ex7_0_92]) ?_
    clear f1 f3 b_b1 l_b1
    rintro t H n ⟨f1, f3, f33, b_b1, l_b1⟩
    refine Stk.oz T.t92 (cs := c92 (api_Con.mk ⟨#[]⟩ [])) (by rfl) rfl (by simp [f1, f3, f33]) rfl (fun t' ht' => ?_)
    refine Stk.gen (fun t H n => ∃ b8, t 1 = .own b1 0 ∧ t 3 = .sc (.int .i64 v4) ∧ t 4 = .own b8 0 ∧ t 33 = .agg (c92 x7) ∧ H b1 = some (.cells (c72 a0) 72) ∧ b1 < n ∧ H b8 = some (.cells (c92 (api_Con.mk ⟨#[]⟩ [])) 92) ∧ b8 < n ∧ b1 ≠ b8) ⟨n, by simp [ht', f1], by simp [ht', f3], by simp [ht'], by simp [ht', f33], (upd_ne _ _ (Nat.ne_of_lt l_b1)).trans b_b1, Nat.lt_succ_of_lt l_b1, upd_same _ _ _, Nat.lt_succ_self _, Nat.ne_of_lt l_b1⟩ ?_
    clear f1 f3 f33 b_b1 l_b1 ht' t'
    rintro t H n ⟨b8, f1, f3, f4, f33, b_b1, l_b1, b_b8, l_b8, d_b1_b8⟩
    refine Stk.om (mop_store (z := 2) rfl f4 b_b8 f33 (len92 _) (by rw [len92]; decide) (ok92 _) (st_92_0_92 _ _)) (by simp [f1, f3, f4, f33]) rfl (fun t' ht' => ?_)
    refine Stk.gen (fun t H n => t 1 = .own b1 0 ∧ t 3 = .sc (.int .i64 v4) ∧ t 4 = .own b8 0 ∧ H b1 = some (.cells (c72 a0) 72) ∧ b1 < n ∧ H b8 = some (.cells (c92 x7) 92) ∧ b8 < n ∧ b1 ≠ b8) ⟨by simp [ht', f1], by simp [ht', f3], by simp [ht', f4], (upd_ne _ _ d_b1_b8).trans b_b1, l_b1, upd_same _ _ _, l_b8, d_b1_b8⟩ ?_
    clear f1 f3 f4 f33 b_b1 l_b1 b_b8 l_b8 d_b1_b8 ht' t'
    rintro t H n ⟨f1, f3, f4, b_b1, l_b1, b_b8, l_b8, d_b1_b8⟩
    obtain ⟨x9, hx9, h⟩ := bnd h
    refine evY_sound (f := 6) ?_; simp [-splice, f1, f3, f4, b_b1, b_b8, ld_92_0_9]
    refine Stk.cv (g := 45) (args := [.sc (.string x7.Name), .sc (.bool true)]) (args' := [.sc (.string x7.Name), .sc (.bool true)]) (v := .sc (.bool x9)) [] (ok_R03_Named F _ _ _ hx9) (by simp [-splice, f1, f3, f4, b_b1, b_b8, ld_92_0_9]) rfl rfl (by simp [-splice, f1, f3, f4, b_b1, b_b8, ld_92_0_9]) (.cons (.free (rfl)) (.cons (.free (rfl)) (.nil))) (.inl ⟨rfl, rfl⟩) (fun t' ht' => ?_)
    subst ht'
    refine evY_sound (f := 2) ?_; simp [-splice, f1, f3, f4, b_b1, b_b8, ld_92_0_9]
    refine Stk.gd 5 38 43 (fun z => .sc (.bool (z || (decide (6 < (x7.Fields.length : Int)))))) (w := (!x9)) (by simp [-splice, f1, f3, f4, b_b1, b_b8, ld_92_0_9]) (by simp [-splice, f1, f3, f4, b_b1, b_b8, ld_92_0_9, ld_92_1_24]) (by simp [-splice, f1, f3, f4, b_b1, b_b8, ld_92_0_9, ld_92_1_24]) ?_; simp [-splice, f1, f3, f4, b_b1, b_b8, ld_92_0_9]
    refine evY_sound (f := 1) ?_; simp [-splice, f1, f3, f4, b_b1, b_b8, ld_92_0_9]
    refine Stk.cond ((!x9) || (decide (6 < (x7.Fields.length : Int)))) (by simp [-splice, f1, f3, f4, b_b1, b_b8, ld_92_0_9]) (fun hb10 => ?_) (fun hb10 => ?_)
    ·have h := cT hb10 h
     refine evY_sound (f := 5) ?_; simp [-splice, f1, f3, f4, b_b1, b_b8, ld_92_0_9]
     have hq := Option.some.inj h; subst hq
     exact (hr _ _ _ (.sc (.bool false)) ([]) (by simp [-splice, f1, f3, f4, b_b1, b_b8, ld_92_0_9]) (.inr (.inr (.free (rfl))))).1
    ·have h := cF hb10 h
     refine evY_sound (f := 5) ?_; simp [-splice, f1, f3, f4, b_b1, b_b8, ld_92_0_9]
     obtain ⟨K2, hK2, h⟩ := jnd h
     refine Stk.jn (fun t H n => K2 () = some r ∧ t 1 = .own b1 0 ∧ t 3 = .sc (.int .i64 v4) ∧ H b1 = some (.cells (c72 a0) 72) ∧ b1 < n) trivial (fun J2 hJ2 => ?_) ?_
     · skip
       refine evY_sound (f := 1) ?_; simp [-splice, f1, f3, f4, b_b1, b_b8, ld_92_0_9]
       refine Stk.gen (fun t H n => t 1 = .own b1 0 ∧ t 3 = .sc (.int .i64 v4) ∧ t 4 = .own b8 0 ∧ t 5 = .sc (.int .i64 0) ∧ H b1 = some (.cells (c72 a0) 72) ∧ b1 < n ∧ H b8 = some (.cells (c92 x7) 92) ∧ b8 < n ∧ b1 ≠ b8) (by and_intros <;> first | assumption | simp [-splice, f1, f3, f4, b_b1, b_b8, ld_92_0_9]) ?_
       clear f1 f3 f4 b_b1 l_b1 b_b8 l_b8 d_b1_b8
       rintro t H n ⟨f1, f3, f4, f5, b_b1, l_b1, b_b8, l_b8, d_b1_b8⟩
       refine Stk.lo (fun μ t H n => ∃ v11 : Int, R04_fitData_L1 F x7 K2 μ v11 = some r ∧ t 1 = .own b1 0 ∧ t 3 = .sc (.int .i64 v4) ∧ t 4 = .own b8 0 ∧ t 5 = .sc (.int .i64 v11) ∧ H b1 = some (.cells (c72 a0) 72) ∧ b1 < n ∧ H b8 = some (.cells (c92 x7) 92) ∧ b8 < n ∧ b1 ≠ b8) F ⟨0, h, f1, f3, f4, f5, b_b1, l_b1, b_b8, l_b8, d_b1_b8⟩ ?_
       clear h f1 f3 f4 f5 b_b1 l_b1 b_b8 l_b8 d_b1_b8
       rintro J3 hJ3 μ t H n ⟨v11, h, f1, f3, f4, f5, b_b1, l_b1, b_b8, l_b8, d_b1_b8⟩
       cases μ with
       | zero => exact absurd h (by simp [R04_fitData_L1])
       | succ μ =>
       rw [R04_fitData_L1] at h
       refine evY_sound (f := 9) ?_; simp [-splice, f1, f3, f4, f5, b_b1, b_b8, ld_92_1_24]
       refine Stk.cond (decide (v11 < (x7.Fields.length : Int))) (by simp [-splice, f1, f3, f4, f5, b_b1, b_b8, ld_92_1_24]) (fun hb13 => ?_) (fun hb13 => ?_)
       ·have h := cT hb13 h
        obtain ⟨x14, hx14, h⟩ := bnd h
        obtain ⟨i0x14, i1x14, i2x14, _⟩ := idx_ok hx14
        have ex14_0_26 : partOf T.T 26 (encs c26 x7.Fields) (v11.toNat * 3) = some (.agg (c26 x14)) := by
            have e0 := part_elem0 (e := c26) (z := 3) (T := T.T) (ty := 26) T.t26 (by decide) (by decide) hx14 0 (by decide)
            (try simp only [Nat.mul_one, Nat.add_zero] at e0)
            exact e0.trans (ld_26_0_26 _)
        obtain ⟨x15, hx15, h⟩ := bnd h
        refine evY_sound (f := 10) ?_; simp [-splice, f1, f3, f4, f5, b_b1, b_b8, ld_92_1_24, i0x14, i1x14, pd26, ex14_0_26]
        refine Stk.cv (g := 19) (args := [.agg (c26 x14)]) (args' := [.agg (c26 x14)]) (v := .sc (.bool x15)) [] (ok_R04_FitType F _ _ hx15) (by simp [-splice, f1, f3, f4, f5, b_b1, b_b8, ld_92_1_24, i0x14, i1x14, pd26, ex14_0_26]) rfl rfl (by simp [-splice, f1, f3, f4, f5, b_b1, b_b8, ld_92_1_24, i0x14, i1x14, pd26, ex14_0_26]) (.cons (.free (fr26 _)) (.nil)) (.inl ⟨rfl, rfl⟩) (fun t' ht' => ?_)
        subst ht'
        refine evY_sound (f := 2) ?_; simp [-splice, f1, f3, f4, f5, b_b1, b_b8, ld_92_1_24, i0x14, i1x14, pd26, ex14_0_26]
        refine Stk.cond (!x15) (by simp [-splice, f1, f3, f4, f5, b_b1, b_b8, ld_92_1_24, i0x14, i1x14, pd26, ex14_0_26]) (fun hb16 => ?_) (fun hb16 => ?_)
        ·have h := cT hb16 h
         refine evY_sound (f := 5) ?_; simp [-splice, f1, f3, f4, f5, b_b1, b_b8, ld_92_1_24, i0x14, i1x14, pd26, ex14_0_26]
         have hq := Option.some.inj h; subst hq
         exact (hr _ _ _ (.sc (.bool false)) ([]) (by simp [-splice, f1, f3, f4, f5, b_b1, b_b8, ld_92_1_24, i0x14, i1x14, pd26, ex14_0_26]) (.inr (.inr (.free (rfl))))).1
        ·have h := cF hb16 h
         refine evY_sound (f := 7) ?_; simp [-splice, f1, f3, f4, f5, b_b1, b_b8, ld_92_1_24, i0x14, i1x14, pd26, ex14_0_26]
         exact Stk.ln μ (Nat.lt_succ_self _) (hJ3 _ _ _ _ ⟨(IntKind.i64.wrap (v11 + 1)), h, by and_intros <;> first | assumption | simp [-splice, f1, f3, f4, f5, b_b1, b_b8, ld_92_1_24, i0x14, i1x14, pd26, ex14_0_26]⟩)
       ·have h := cF hb13 h
        refine Stk.ex rfl ?_
        exact Stk.ln 0 (by decide) (hJ2 _ _ _ ⟨h, by and_intros <;> first | assumption | simp [-splice, f1, f3, f4, f5, b_b1, b_b8, ld_92_1_24]⟩)
     clear h f1 f3 f4 b_b1 l_b1 b_b8 l_b8 d_b1_b8
     rintro t H n ⟨h, f1, f3, b_b1, l_b1⟩
     subst hK2
     refine evY_sound (f := 6) ?_; simp [-splice, f1, f3, b_b1]
     exact Stk.ln μ (Nat.lt_succ_self _) (hJ1 _ _ _ _ ⟨(IntKind.i64.wrap (v4 + 1)), h, by and_intros <;> first | assumption | simp [-splice, f1, f3, b_b1]⟩)
   ·have h := cF hb6 h
    refine Stk.ex rfl ?_
    refine evY_sound (f := 5) ?_; simp [-splice, f1, f3, b_b1, ld_72_3_70]
    have hq := Option.some.inj h; subst hq
    exact (hr _ _ _ (.sc (.bool true)) ([]) (by simp [-splice, f1, f3, b_b1, ld_72_3_70]) (.inr (.inr (.free (rfl))))).1
theorem ok_R04_fitParam (F : Nat) (a0 : api_Param) (r : Bool) (h : R04_fitParam F a0 = some r) : RunF Tryz.prog T.T 46 [.agg (c81 a0)] (.sc (.bool r)) := by
  rw [R04_fitParam] at h
  refine RunF.z Tryz.func46 rfl rfl rfl rfl rfl (fun C hr => ?_)
  refine Stk.gen (fun t H n => t 0 = .agg (c81 a0)) (by simp) ?_
  rintro t H n f0
  refine evY_sound (f := 2) ?_; simp [-splice, f0]
  refine Stk.gen (fun t H n => t 0 = .agg (c81 a0)) (by simp [-splice, f0]) ?_
  clear f0
  rintro t H n f0
  refine Stk.om (mop_box T.t81 (cs := c81 a0) (by show partOk (t 0) = true; rw [f0]; rfl) (by show cellsOf (t 0) = _; rw [f0]; rfl)) (by simp [f0]) rfl (fun t' ht' => ?_)
  refine Stk.gen (fun t H n => ∃ b1, t 1 = .own b1 0 ∧ H b1 = some (.cells (c81 a0) 81) ∧ b1 < n) ⟨n, by simp [ht'], upd_same _ _ _, Nat.lt_succ_self _⟩ ?_
  clear f0 ht' t'
  rintro t H n ⟨b1, f1, b_b1, l_b1⟩
  obtain ⟨x2, hx2, h⟩ := bnd h
  refine evY_sound (f := 6) ?_; simp [-splice, f1, b_b1, ld_81_0_9]
  refine Stk.cv (g := 45) (args := [.sc (.string a0.Name), .sc (.bool false)]) (args' := [.sc (.string a0.Name), .sc (.bool false)]) (v := .sc (.bool x2)) [] (ok_R03_Named F _ _ _ hx2) (by simp [-splice, f1, b_b1, ld_81_0_9]) rfl rfl (by simp [-splice, f1, b_b1, ld_81_0_9]) (.cons (.free (rfl)) (.cons (.free (rfl)) (.nil))) (.inl ⟨rfl, rfl⟩) (fun t' ht' => ?_)
  subst ht'
  refine evY_sound (f := 1) ?_; simp [-splice, f1, b_b1, ld_81_0_9]
  refine Stk.gen (fun t H n => t 1 = .own b1 0 ∧ t 6 = .sc (.bool x2) ∧ H b1 = some (.cells (c81 a0) 81) ∧ b1 < n) (by and_intros <;> first | assumption | simp [-splice, f1, b_b1, ld_81_0_9]) ?_
  clear f1 b_b1 l_b1
  rintro t H n ⟨f1, f6, b_b1, l_b1⟩
  obtain ⟨K1, hK1, h⟩ := jnd h
  refine Stk.jo 4 (fun t H n => ∃ v3 : Bool, K1 v3 = some r ∧ t 10 = .sc (.bool v3)) (fun J1 hJ1 => ?_) ?_
  · rcases Bool.eq_false_or_eq_true x2 with hb1 | hb1
    · rw [hb1] at f6
      replace h := cT hb1 h
      obtain ⟨x4, hx4, h⟩ := bnd h
      refine evY_sound (f := 2) ?_; simp [-splice, f1, f6, b_b1, ld_81_1_26]
      refine Stk.cv (g := 19) (args := [.agg (c26 a0.Type_)]) (args' := [.agg (c26 a0.Type_)]) (v := .sc (.bool x4)) [] (ok_R04_FitType F _ _ hx4) (by simp [-splice, f1, f6, b_b1, ld_81_1_26]) rfl rfl (by simp [-splice, f1, f6, b_b1, ld_81_1_26]) (.cons (.free (fr26 _)) (.nil)) (.inl ⟨rfl, rfl⟩) (fun t' ht' => ?_)
      subst ht'
      refine evY_sound (f := 2) ?_; simp [-splice, f1, f6, b_b1, ld_81_1_26]
      exact Stk.ln 0 (by decide) (hJ1 _ _ _ ⟨x4, h, by simp [-splice, f1, f6, b_b1, ld_81_1_26]⟩)
    · rw [hb1] at f6
      replace h := cF hb1 h
      refine evY_sound (f := 5) ?_; simp [-splice, f1, f6, b_b1]
      exact Stk.ln 0 (by decide) (hJ1 _ _ _ ⟨false, h, by simp [-splice, f1, f6, b_b1]⟩)
  clear h f1 f6 b_b1 l_b1
  rintro t H n ⟨v3, h, f10⟩
  subst hK1
  refine evY_sound (f := 3) ?_; simp [-splice, f10]
  have hq := Option.some.inj h; subst hq
  exact (hr _ _ _ (.sc (.bool v3)) ([]) (by simp [-splice, f10]) (.inr (.inr (.free (rfl))))).1
theorem ok_R04_fitFun (F : Nat) (a0 : api_Fun) (r : Bool) (h : R04_fitFun F a0 = some r) : RunF Tryz.prog T.T 44 [.agg (c77 a0)] (.sc (.bool r)) := by
  rw [R04_fitFun] at h
  refine RunF.z Tryz.func44 rfl rfl rfl rfl rfl (fun C hr => ?_)
  refine Stk.gen (fun t H n => t 0 = .agg (c77 a0)) (by simp) ?_
  rintro t H n f0
  refine evY_sound (f := 2) ?_; simp [-splice, f0]
  refine Stk.gen (fun t H n => t 0 = .agg (c77 a0)) (by simp [-splice, f0]) ?_
  clear f0
  rintro t H n f0
  refine Stk.om (mop_box T.t77 (cs := c77 a0) (by show partOk (t 0) = true; rw [f0]; rfl) (by show cellsOf (t 0) = _; rw [f0]; rfl)) (by simp [f0]) rfl (fun t' ht' => ?_)
  refine Stk.gen (fun t H n => ∃ b1, t 1 = .own b1 0 ∧ H b1 = some (.cells (c77 a0) 77) ∧ b1 < n) ⟨n, by simp [ht'], upd_same _ _ _, Nat.lt_succ_self _⟩ ?_
  clear f0 ht' t'
  rintro t H n ⟨b1, f1, b_b1, l_b1⟩
  obtain ⟨x2, hx2, h⟩ := bnd h
  refine evY_sound (f := 7) ?_; simp [-splice, f1, b_b1, ld_77_2_9]
  refine Stk.cv (g := 114) (args := [.sc (.string a0.Name)]) (args' := [.sc (.string a0.Name)]) (v := .sc (.bool x2)) [] (ok_R04_Called F _ _ hx2) (by simp [-splice, f1, b_b1, ld_77_2_9]) rfl rfl (by simp [-splice, f1, b_b1, ld_77_2_9]) (.cons (.free (rfl)) (.nil)) (.inl ⟨rfl, rfl⟩) (fun t' ht' => ?_)
  subst ht'
  refine evY_sound (f := 2) ?_; simp [-splice, f1, b_b1, ld_77_2_9]
  refine Stk.gd 5 8 13 (fun z => .sc (.bool (z || (decide ((a0.Params.length : Int) < 1))))) (w := (!x2)) (by simp [-splice, f1, b_b1, ld_77_2_9]) (by simp [-splice, f1, b_b1, ld_77_2_9, ld_77_3_75]) (by simp [-splice, f1, b_b1, ld_77_2_9, ld_77_3_75]) ?_; simp [-splice, f1, b_b1, ld_77_2_9]
  refine evY_sound (f := 1) ?_; simp [-splice, f1, b_b1, ld_77_2_9]
  refine Stk.gd 5 14 19 (fun z => .sc (.bool (z || (decide (6 < (a0.Params.length : Int)))))) (w := ((!x2) || (decide ((a0.Params.length : Int) < 1)))) (by simp [-splice, f1, b_b1, ld_77_2_9]) (by simp [-splice, f1, b_b1, ld_77_2_9, ld_77_3_75]) (by simp [-splice, f1, b_b1, ld_77_2_9, ld_77_3_75]) ?_; simp [-splice, f1, b_b1, ld_77_2_9]
  refine evY_sound (f := 1) ?_; simp [-splice, f1, b_b1, ld_77_2_9]
  refine Stk.gen (fun t H n => t 1 = .own b1 0 ∧ t 20 = .sc (.bool (((!x2) || (decide ((a0.Params.length : Int) < 1))) || (decide (6 < (a0.Params.length : Int))))) ∧ H b1 = some (.cells (c77 a0) 77) ∧ b1 < n) (by and_intros <;> first | assumption | simp [-splice, f1, b_b1, ld_77_2_9]) ?_
  clear f1 b_b1 l_b1
  rintro t H n ⟨f1, f20, b_b1, l_b1⟩
  obtain ⟨K1, hK1, h⟩ := jnd h
  refine Stk.jo 5 (fun t H n => ∃ v3 : Bool, K1 v3 = some r ∧ t 1 = .own b1 0 ∧ t 25 = .sc (.bool v3) ∧ H b1 = some (.cells (c77 a0) 77) ∧ b1 < n) (fun J1 hJ1 => ?_) ?_
  · rcases Bool.eq_false_or_eq_true (((!x2) || (decide ((a0.Params.length : Int) < 1))) || (decide (6 < (a0.Params.length : Int)))) with hb1 | hb1
    · rw [hb1] at f20
      replace h := cT hb1 h
      refine evY_sound (f := 6) ?_; simp [-splice, f1, f20, b_b1]
      exact Stk.ln 0 (by decide) (hJ1 _ _ _ ⟨true, h, by and_intros <;> first | assumption | simp [-splice, f1, f20, b_b1]⟩)
    · rw [hb1] at f20
      replace h := cF hb1 h
      obtain ⟨x4, hx4, h⟩ := bnd h
      refine evY_sound (f := 2) ?_; simp [-splice, f1, f20, b_b1, ld_77_4_26]
      refine Stk.cv (g := 19) (args := [.agg (c26 a0.Result)]) (args' := [.agg (c26 a0.Result)]) (v := .sc (.bool x4)) [] (ok_R04_FitType F _ _ hx4) (by simp [-splice, f1, f20, b_b1, ld_77_4_26]) rfl rfl (by simp [-splice, f1, f20, b_b1, ld_77_4_26]) (.cons (.free (fr26 _)) (.nil)) (.inl ⟨rfl, rfl⟩) (fun t' ht' => ?_)
      subst ht'
      refine evY_sound (f := 3) ?_; simp [-splice, f1, f20, b_b1, ld_77_4_26]
      exact Stk.ln 0 (by decide) (hJ1 _ _ _ ⟨(!x4), h, by and_intros <;> first | assumption | simp [-splice, f1, f20, b_b1, ld_77_4_26]⟩)
  clear h f1 f20 b_b1 l_b1
  rintro t H n ⟨v3, h, f1, f25, b_b1, l_b1⟩
  subst hK1
  refine evY_sound (f := 1) ?_; simp [-splice, f1, f25, b_b1]
  refine Stk.gen (fun t H n => t 1 = .own b1 0 ∧ t 26 = .sc (.bool v3) ∧ H b1 = some (.cells (c77 a0) 77) ∧ b1 < n) (by and_intros <;> first | assumption | simp [-splice, f1, f25, b_b1]) ?_
  clear f1 f25 b_b1 l_b1
  rintro t H n ⟨f1, f26, b_b1, l_b1⟩
  obtain ⟨K2, hK2, h⟩ := jnd h
  refine Stk.jo 5 (fun t H n => ∃ v5 : Bool, K2 v5 = some r ∧ t 1 = .own b1 0 ∧ t 31 = .sc (.bool v5) ∧ H b1 = some (.cells (c77 a0) 77) ∧ b1 < n) (fun J2 hJ2 => ?_) ?_
  · rcases Bool.eq_false_or_eq_true v3 with hb2 | hb2
    · rw [hb2] at f26
      replace h := cT hb2 h
      refine evY_sound (f := 6) ?_; simp [-splice, f1, f26, b_b1]
      exact Stk.ln 0 (by decide) (hJ2 _ _ _ ⟨true, h, by and_intros <;> first | assumption | simp [-splice, f1, f26, b_b1]⟩)
    · rw [hb2] at f26
      replace h := cF hb2 h
      obtain ⟨x6, hx6, h⟩ := bnd h
      refine evY_sound (f := 2) ?_; simp [-splice, f1, f26, b_b1, ld_77_7_33]
      refine Stk.cv (g := 15) (args := [.agg (c33 a0.Body)]) (args' := [.agg (c33 a0.Body)]) (v := .sc (.bool x6)) [] (ok_R04_FitExpr F _ _ hx6) (by simp [-splice, f1, f26, b_b1, ld_77_7_33]) rfl rfl (by simp [-splice, f1, f26, b_b1, ld_77_7_33]) (.cons (.free (fr33 _)) (.nil)) (.inl ⟨rfl, rfl⟩) (fun t' ht' => ?_)
      subst ht'
      refine evY_sound (f := 3) ?_; simp [-splice, f1, f26, b_b1, ld_77_7_33]
      exact Stk.ln 0 (by decide) (hJ2 _ _ _ ⟨(!x6), h, by and_intros <;> first | assumption | simp [-splice, f1, f26, b_b1, ld_77_7_33]⟩)
  clear h f1 f26 b_b1 l_b1
  rintro t H n ⟨v5, h, f1, f31, b_b1, l_b1⟩
  subst hK2
  refine evY_sound (f := 1) ?_; simp [-splice, f1, f31, b_b1]
  refine Stk.cond v5 (by simp [-splice, f1, f31, b_b1]) (fun hb7 => ?_) (fun hb7 => ?_)
  ·have h := cT hb7 h
   refine evY_sound (f := 5) ?_; simp [-splice, f1, f31, b_b1]
   have hq := Option.some.inj h; subst hq
   exact (hr _ _ _ (.sc (.bool false)) ([]) (by simp [-splice, f1, f31, b_b1]) (.inr (.inr (.free (rfl))))).1
  ·have h := cF hb7 h
   refine evY_sound (f := 7) ?_; simp [-splice, f1, f31, b_b1]
   refine Stk.gen (fun t H n => t 1 = .own b1 0 ∧ t 3 = .sc (.int .i64 0) ∧ H b1 = some (.cells (c77 a0) 77) ∧ b1 < n) (by and_intros <;> first | assumption | simp [-splice, f1, f31, b_b1]) ?_
   clear f1 f31 b_b1 l_b1
   rintro t H n ⟨f1, f3, b_b1, l_b1⟩
   refine Stk.lo (fun μ t H n => ∃ v8 : Int, R04_fitFun_L0 F a0 μ v8 = some r ∧ t 1 = .own b1 0 ∧ t 3 = .sc (.int .i64 v8) ∧ H b1 = some (.cells (c77 a0) 77) ∧ b1 < n) F ⟨0, h, f1, f3, b_b1, l_b1⟩ ?_
   clear h f1 f3 b_b1 l_b1
   rintro J3 hJ3 μ t H n ⟨v8, h, f1, f3, b_b1, l_b1⟩
   cases μ with
   | zero => exact absurd h (by simp [R04_fitFun_L0])
   | succ μ =>
   rw [R04_fitFun_L0] at h
   refine evY_sound (f := 9) ?_; simp [-splice, f1, f3, b_b1, ld_77_3_75]
   refine Stk.cond (decide (v8 < (a0.Params.length : Int))) (by simp [-splice, f1, f3, b_b1, ld_77_3_75]) (fun hb10 => ?_) (fun hb10 => ?_)
   ·have h := cT hb10 h
    obtain ⟨x11, hx11, h⟩ := bnd h
    obtain ⟨i0x11, i1x11, i2x11, _⟩ := idx_ok hx11
    have ex11_0_81 : partOf T.T 81 (encs c81 a0.Params) (v8.toNat * 4) = some (.agg (c81 x11)) := by
        have e0 := part_elem0 (e := c81) (z := 4) (T := T.T) (ty := 81) T.t81 (by decide) (by decide) hx11 0 (by decide)
        (try simp only [Nat.mul_one, Nat.add_zero] at e0)
        exact e0.trans (ld_81_0_81 _)
    obtain ⟨x12, hx12, h⟩ := bnd h
    refine evY_sound (f := 10) ?_; simp [-splice, f1, f3, b_b1, ld_77_3_75, i0x11, i1x11, pd81, ex11_0_81]
    refine Stk.cv (g := 46) (args := [.agg (c81 x11)]) (args' := [.agg (c81 x11)]) (v := .sc (.bool x12)) [] (ok_R04_fitParam F _ _ hx12) (by simp [-splice, f1, f3, b_b1, ld_77_3_75, i0x11, i1x11, pd81, ex11_0_81]) rfl rfl (by simp [-splice, f1, f3, b_b1, ld_77_3_75, i0x11, i1x11, pd81, ex11_0_81]) (.cons (.free (fr81 _)) (.nil)) (.inl ⟨rfl, rfl⟩) (fun t' ht' => ?_)
    subst ht'
    refine evY_sound (f := 2) ?_; simp [-splice, f1, f3, b_b1, ld_77_3_75, i0x11, i1x11, pd81, ex11_0_81]
    refine Stk.cond (!x12) (by simp [-splice, f1, f3, b_b1, ld_77_3_75, i0x11, i1x11, pd81, ex11_0_81]) (fun hb13 => ?_) (fun hb13 => ?_)
    ·have h := cT hb13 h
     refine evY_sound (f := 5) ?_; simp [-splice, f1, f3, b_b1, ld_77_3_75, i0x11, i1x11, pd81, ex11_0_81]
     have hq := Option.some.inj h; subst hq
     exact (hr _ _ _ (.sc (.bool false)) ([]) (by simp [-splice, f1, f3, b_b1, ld_77_3_75, i0x11, i1x11, pd81, ex11_0_81]) (.inr (.inr (.free (rfl))))).1
    ·have h := cF hb13 h
     refine evY_sound (f := 7) ?_; simp [-splice, f1, f3, b_b1, ld_77_3_75, i0x11, i1x11, pd81, ex11_0_81]
     exact Stk.ln μ (Nat.lt_succ_self _) (hJ3 _ _ _ _ ⟨(IntKind.i64.wrap (v8 + 1)), h, by and_intros <;> first | assumption | simp [-splice, f1, f3, b_b1, ld_77_3_75, i0x11, i1x11, pd81, ex11_0_81]⟩)
   ·have h := cF hb10 h
    refine Stk.ex rfl ?_
    refine evY_sound (f := 5) ?_; simp [-splice, f1, f3, b_b1, ld_77_3_75]
    have hq := Option.some.inj h; subst hq
    exact (hr _ _ _ (.sc (.bool true)) ([]) (by simp [-splice, f1, f3, b_b1, ld_77_3_75]) (.inr (.inr (.free (rfl))))).1
theorem ok_R04_Fit (F : Nat) (a0 : api_Prog) (r : Bool) (h : R04_Fit F a0 = some r) : RunF Tryz.prog T.T 13 [.agg (c36 a0)] (.sc (.bool r)) := by
  rw [R04_Fit] at h
  refine RunF.z Tryz.func13 rfl rfl rfl rfl rfl (fun C hr => ?_)
  refine Stk.gen (fun t H n => t 0 = .agg (c36 a0)) (by simp) ?_
  rintro t H n f0
  refine evY_sound (f := 2) ?_; simp [-splice, f0]
  refine Stk.gen (fun t H n => t 0 = .agg (c36 a0)) (by simp [-splice, f0]) ?_
  clear f0
  rintro t H n f0
  refine Stk.om (mop_box T.t36 (cs := c36 a0) (by show partOk (t 0) = true; rw [f0]; rfl) (by show cellsOf (t 0) = _; rw [f0]; rfl)) (by simp [f0]) rfl (fun t' ht' => ?_)
  refine Stk.gen (fun t H n => ∃ b1, t 1 = .own b1 0 ∧ H b1 = some (.cells (c36 a0) 36) ∧ b1 < n) ⟨n, by simp [ht'], upd_same _ _ _, Nat.lt_succ_self _⟩ ?_
  clear f0 ht' t'
  rintro t H n ⟨b1, f1, b_b1, l_b1⟩
  refine evY_sound (f := 10) ?_; simp [-splice, f1, b_b1, ld_36_0_22]
  refine Stk.gd 5 11 16 (fun z => .sc (.bool (z || (decide (48 < (a0.Funs.length : Int)))))) (w := decide (32 < (a0.Datas.length : Int))) (by simp [-splice, f1, b_b1, ld_36_0_22]) (by simp [-splice, f1, b_b1, ld_36_0_22, ld_36_1_23]) (by simp [-splice, f1, b_b1, ld_36_0_22, ld_36_1_23]) ?_; simp [-splice, f1, b_b1, ld_36_0_22]
  refine evY_sound (f := 1) ?_; simp [-splice, f1, b_b1, ld_36_0_22]
  refine Stk.gd 5 17 22 (fun z => .sc (.bool (z || (decide (16 < (a0.Hands.length : Int)))))) (w := ((decide (32 < (a0.Datas.length : Int))) || (decide (48 < (a0.Funs.length : Int))))) (by simp [-splice, f1, b_b1, ld_36_0_22]) (by simp [-splice, f1, b_b1, ld_36_0_22, ld_36_16_34]) (by simp [-splice, f1, b_b1, ld_36_0_22, ld_36_16_34]) ?_; simp [-splice, f1, b_b1, ld_36_0_22]
  refine evY_sound (f := 1) ?_; simp [-splice, f1, b_b1, ld_36_0_22]
  refine Stk.cond (((decide (32 < (a0.Datas.length : Int))) || (decide (48 < (a0.Funs.length : Int)))) || (decide (16 < (a0.Hands.length : Int)))) (by simp [-splice, f1, b_b1, ld_36_0_22]) (fun hb2 => ?_) (fun hb2 => ?_)
  ·have h := cT hb2 h
   refine evY_sound (f := 5) ?_; simp [-splice, f1, b_b1, ld_36_0_22]
   have hq := Option.some.inj h; subst hq
   exact (hr _ _ _ (.sc (.bool false)) ([]) (by simp [-splice, f1, b_b1, ld_36_0_22]) (.inr (.inr (.free (rfl))))).1
  ·have h := cF hb2 h
   refine evY_sound (f := 8) ?_; simp [-splice, f1, b_b1, ld_36_0_22, ld_36_2_3]
   refine Stk.gd 4 26 30 (fun z => .sc (.bool (z || (decide (32 < a0.Queue))))) (w := decide (a0.Queue < 1)) (by simp [-splice, f1, b_b1, ld_36_0_22, ld_36_2_3]) (by simp [-splice, f1, b_b1, ld_36_0_22, ld_36_2_3]) (by simp [-splice, f1, b_b1, ld_36_0_22, ld_36_2_3]) ?_; simp [-splice, f1, b_b1, ld_36_0_22, ld_36_2_3]
   refine evY_sound (f := 1) ?_; simp [-splice, f1, b_b1, ld_36_0_22, ld_36_2_3]
   refine Stk.gd 4 31 35 (fun z => .sc (.bool (z || (decide (a0.Timers < 0))))) (w := ((decide (a0.Queue < 1)) || (decide (32 < a0.Queue)))) (by simp [-splice, f1, b_b1, ld_36_0_22, ld_36_2_3]) (by simp [-splice, f1, b_b1, ld_36_0_22, ld_36_2_3, ld_36_3_3]) (by simp [-splice, f1, b_b1, ld_36_0_22, ld_36_2_3, ld_36_3_3]) ?_; simp [-splice, f1, b_b1, ld_36_0_22, ld_36_2_3]
   refine evY_sound (f := 1) ?_; simp [-splice, f1, b_b1, ld_36_0_22, ld_36_2_3]
   refine Stk.gd 4 36 40 (fun z => .sc (.bool (z || (decide (32 < a0.Timers))))) (w := (((decide (a0.Queue < 1)) || (decide (32 < a0.Queue))) || (decide (a0.Timers < 0)))) (by simp [-splice, f1, b_b1, ld_36_0_22, ld_36_2_3]) (by simp [-splice, f1, b_b1, ld_36_0_22, ld_36_2_3, ld_36_3_3]) (by simp [-splice, f1, b_b1, ld_36_0_22, ld_36_2_3, ld_36_3_3]) ?_; simp [-splice, f1, b_b1, ld_36_0_22, ld_36_2_3]
   refine evY_sound (f := 1) ?_; simp [-splice, f1, b_b1, ld_36_0_22, ld_36_2_3]
   refine Stk.gen (fun t H n => t 1 = .own b1 0 ∧ t 41 = .sc (.bool ((((decide (a0.Queue < 1)) || (decide (32 < a0.Queue))) || (decide (a0.Timers < 0))) || (decide (32 < a0.Timers)))) ∧ H b1 = some (.cells (c36 a0) 36) ∧ b1 < n) (by and_intros <;> first | assumption | simp [-splice, f1, b_b1, ld_36_0_22, ld_36_2_3]) ?_
   clear f1 b_b1 l_b1
   rintro t H n ⟨f1, f41, b_b1, l_b1⟩
   obtain ⟨K1, hK1, h⟩ := jnd h
   refine Stk.jo 5 (fun t H n => ∃ v3 : Bool, K1 v3 = some r ∧ t 1 = .own b1 0 ∧ t 46 = .sc (.bool v3) ∧ H b1 = some (.cells (c36 a0) 36) ∧ b1 < n) (fun J1 hJ1 => ?_) ?_
   · rcases Bool.eq_false_or_eq_true ((((decide (a0.Queue < 1)) || (decide (32 < a0.Queue))) || (decide (a0.Timers < 0))) || (decide (32 < a0.Timers))) with hb1 | hb1
     · rw [hb1] at f41
       replace h := cT hb1 h
       refine evY_sound (f := 6) ?_; simp [-splice, f1, f41, b_b1]
       exact Stk.ln 0 (by decide) (hJ1 _ _ _ ⟨true, h, by and_intros <;> first | assumption | simp [-splice, f1, f41, b_b1]⟩)
     · rw [hb1] at f41
       replace h := cF hb1 h
       obtain ⟨x4, hx4, h⟩ := bnd h
       refine evY_sound (f := 2) ?_; simp [-splice, f1, f41, b_b1, ld_36_4_26]
       refine Stk.cv (g := 19) (args := [.agg (c26 a0.State)]) (args' := [.agg (c26 a0.State)]) (v := .sc (.bool x4)) [] (ok_R04_FitType F _ _ hx4) (by simp [-splice, f1, f41, b_b1, ld_36_4_26]) rfl rfl (by simp [-splice, f1, f41, b_b1, ld_36_4_26]) (.cons (.free (fr26 _)) (.nil)) (.inl ⟨rfl, rfl⟩) (fun t' ht' => ?_)
       subst ht'
       refine evY_sound (f := 3) ?_; simp [-splice, f1, f41, b_b1, ld_36_4_26]
       exact Stk.ln 0 (by decide) (hJ1 _ _ _ ⟨(!x4), h, by and_intros <;> first | assumption | simp [-splice, f1, f41, b_b1, ld_36_4_26]⟩)
   clear h f1 f41 b_b1 l_b1
   rintro t H n ⟨v3, h, f1, f46, b_b1, l_b1⟩
   subst hK1
   refine evY_sound (f := 1) ?_; simp [-splice, f1, f46, b_b1]
   refine Stk.gd 4 47 51 (fun z => .sc (.bool (z || (decide (a0.Cap < 0))))) (w := v3) (by simp [-splice, f1, f46, b_b1]) (by simp [-splice, f1, f46, b_b1, ld_36_7_3]) (by simp [-splice, f1, f46, b_b1, ld_36_7_3]) ?_; simp [-splice, f1, f46, b_b1]
   refine evY_sound (f := 1) ?_; simp [-splice, f1, f46, b_b1]
   refine Stk.gd 4 52 56 (fun z => .sc (.bool (z || (decide (256 < a0.Cap))))) (w := (v3 || (decide (a0.Cap < 0)))) (by simp [-splice, f1, f46, b_b1]) (by simp [-splice, f1, f46, b_b1, ld_36_7_3]) (by simp [-splice, f1, f46, b_b1, ld_36_7_3]) ?_; simp [-splice, f1, f46, b_b1]
   refine evY_sound (f := 1) ?_; simp [-splice, f1, f46, b_b1]
   refine Stk.gen (fun t H n => t 1 = .own b1 0 ∧ t 57 = .sc (.bool ((v3 || (decide (a0.Cap < 0))) || (decide (256 < a0.Cap)))) ∧ H b1 = some (.cells (c36 a0) 36) ∧ b1 < n) (by and_intros <;> first | assumption | simp [-splice, f1, f46, b_b1]) ?_
   clear f1 f46 b_b1 l_b1
   rintro t H n ⟨f1, f57, b_b1, l_b1⟩
   obtain ⟨K2, hK2, h⟩ := jnd h
   refine Stk.jo 5 (fun t H n => ∃ v5 : Bool, K2 v5 = some r ∧ t 1 = .own b1 0 ∧ t 62 = .sc (.bool v5) ∧ H b1 = some (.cells (c36 a0) 36) ∧ b1 < n) (fun J2 hJ2 => ?_) ?_
   · rcases Bool.eq_false_or_eq_true ((v3 || (decide (a0.Cap < 0))) || (decide (256 < a0.Cap))) with hb2 | hb2
     · rw [hb2] at f57
       replace h := cT hb2 h
       refine evY_sound (f := 6) ?_; simp [-splice, f1, f57, b_b1]
       exact Stk.ln 0 (by decide) (hJ2 _ _ _ ⟨true, h, by and_intros <;> first | assumption | simp [-splice, f1, f57, b_b1]⟩)
     · rw [hb2] at f57
       replace h := cF hb2 h
       obtain ⟨x6, hx6, h⟩ := bnd h
       refine evY_sound (f := 2) ?_; simp [-splice, f1, f57, b_b1, ld_36_8_33]
       refine Stk.cv (g := 15) (args := [.agg (c33 a0.Init)]) (args' := [.agg (c33 a0.Init)]) (v := .sc (.bool x6)) [] (ok_R04_FitExpr F _ _ hx6) (by simp [-splice, f1, f57, b_b1, ld_36_8_33]) rfl rfl (by simp [-splice, f1, f57, b_b1, ld_36_8_33]) (.cons (.free (fr33 _)) (.nil)) (.inl ⟨rfl, rfl⟩) (fun t' ht' => ?_)
       subst ht'
       refine evY_sound (f := 3) ?_; simp [-splice, f1, f57, b_b1, ld_36_8_33]
       exact Stk.ln 0 (by decide) (hJ2 _ _ _ ⟨(!x6), h, by and_intros <;> first | assumption | simp [-splice, f1, f57, b_b1, ld_36_8_33]⟩)
   clear h f1 f57 b_b1 l_b1
   rintro t H n ⟨v5, h, f1, f62, b_b1, l_b1⟩
   subst hK2
   refine evY_sound (f := 1) ?_; simp [-splice, f1, f62, b_b1]
   refine Stk.cond v5 (by simp [-splice, f1, f62, b_b1]) (fun hb7 => ?_) (fun hb7 => ?_)
   ·have h := cT hb7 h
    refine evY_sound (f := 5) ?_; simp [-splice, f1, f62, b_b1]
    have hq := Option.some.inj h; subst hq
    exact (hr _ _ _ (.sc (.bool false)) ([]) (by simp [-splice, f1, f62, b_b1]) (.inr (.inr (.free (rfl))))).1
   ·have h := cF hb7 h
    refine evY_sound (f := 6) ?_; simp [-splice, f1, f62, b_b1]
    obtain ⟨K3, hK3, h⟩ := jnd h
    refine Stk.jn (fun t H n => K3 () = some r ∧ t 1 = .own b1 0 ∧ H b1 = some (.cells (c36 a0) 36) ∧ b1 < n) trivial (fun J3 hJ3 => ?_) ?_
    · skip
      refine evY_sound (f := 1) ?_; simp [-splice, f1, f62, b_b1]
      refine Stk.gen (fun t H n => t 1 = .own b1 0 ∧ t 3 = .sc (.int .i64 0) ∧ H b1 = some (.cells (c36 a0) 36) ∧ b1 < n) (by and_intros <;> first | assumption | simp [-splice, f1, f62, b_b1]) ?_
      clear f1 f62 b_b1 l_b1
      rintro t H n ⟨f1, f3, b_b1, l_b1⟩
      refine Stk.lo (fun μ t H n => ∃ v8 : Int, R04_Fit_L0 F a0 K3 μ v8 = some r ∧ t 1 = .own b1 0 ∧ t 3 = .sc (.int .i64 v8) ∧ H b1 = some (.cells (c36 a0) 36) ∧ b1 < n) F ⟨0, h, f1, f3, b_b1, l_b1⟩ ?_
      clear h f1 f3 b_b1 l_b1
      rintro J4 hJ4 μ t H n ⟨v8, h, f1, f3, b_b1, l_b1⟩
      cases μ with
      | zero => exact absurd h (by simp [R04_Fit_L0])
      | succ μ =>
      rw [R04_Fit_L0] at h
      refine evY_sound (f := 9) ?_; simp [-splice, f1, f3, b_b1, ld_36_0_22]
      refine Stk.cond (decide (v8 < (a0.Datas.length : Int))) (by simp [-splice, f1, f3, b_b1, ld_36_0_22]) (fun hb10 => ?_) (fun hb10 => ?_)
      ·have h := cT hb10 h
       obtain ⟨x11, hx11, h⟩ := bnd h
       obtain ⟨i0x11, i1x11, i2x11, _⟩ := idx_ok hx11
       have ex11_0_72 : partOf T.T 72 (encs c72 a0.Datas) (v8.toNat * 4) = some (.agg (c72 x11)) := by
           have e0 := part_elem0 (e := c72) (z := 4) (T := T.T) (ty := 72) T.t72 (by decide) (by decide) hx11 0 (by decide)
           (try simp only [Nat.mul_one, Nat.add_zero] at e0)
           exact e0.trans (ld_72_0_72 _)
       obtain ⟨x12, hx12, h⟩ := bnd h
       refine evY_sound (f := 10) ?_; simp [-splice, f1, f3, b_b1, ld_36_0_22, i0x11, i1x11, pd72, ex11_0_72]
       refine Stk.cv (g := 43) (args := [.agg (c72 x11)]) (args' := [.agg (c72 x11)]) (v := .sc (.bool x12)) [] (ok_R04_fitData F _ _ hx12) (by simp [-splice, f1, f3, b_b1, ld_36_0_22, i0x11, i1x11, pd72, ex11_0_72]) rfl rfl (by simp [-splice, f1, f3, b_b1, ld_36_0_22, i0x11, i1x11, pd72, ex11_0_72]) (.cons (.free (fr72 _)) (.nil)) (.inl ⟨rfl, rfl⟩) (fun t' ht' => ?_)
       subst ht'
       refine evY_sound (f := 2) ?_; simp [-splice, f1, f3, b_b1, ld_36_0_22, i0x11, i1x11, pd72, ex11_0_72]
       refine Stk.cond (!x12) (by simp [-splice, f1, f3, b_b1, ld_36_0_22, i0x11, i1x11, pd72, ex11_0_72]) (fun hb13 => ?_) (fun hb13 => ?_)
       ·have h := cT hb13 h
        refine evY_sound (f := 5) ?_; simp [-splice, f1, f3, b_b1, ld_36_0_22, i0x11, i1x11, pd72, ex11_0_72]
        have hq := Option.some.inj h; subst hq
        exact (hr _ _ _ (.sc (.bool false)) ([]) (by simp [-splice, f1, f3, b_b1, ld_36_0_22, i0x11, i1x11, pd72, ex11_0_72]) (.inr (.inr (.free (rfl))))).1
       ·have h := cF hb13 h
        refine evY_sound (f := 7) ?_; simp [-splice, f1, f3, b_b1, ld_36_0_22, i0x11, i1x11, pd72, ex11_0_72]
        exact Stk.ln μ (Nat.lt_succ_self _) (hJ4 _ _ _ _ ⟨(IntKind.i64.wrap (v8 + 1)), h, by and_intros <;> first | assumption | simp [-splice, f1, f3, b_b1, ld_36_0_22, i0x11, i1x11, pd72, ex11_0_72]⟩)
      ·have h := cF hb10 h
       refine Stk.ex rfl ?_
       exact Stk.ln 0 (by decide) (hJ3 _ _ _ ⟨h, by simp [-splice, f1, f3, b_b1, ld_36_0_22], b_b1, l_b1⟩)
    clear h f1 f62 b_b1 l_b1
    rintro t H n ⟨h, f1, b_b1, l_b1⟩
    subst hK3
    refine evY_sound (f := 5) ?_; simp [-splice, f1, b_b1]
    obtain ⟨K5, hK5, h⟩ := jnd h
    refine Stk.jn (fun t H n => K5 () = some r ∧ t 1 = .own b1 0 ∧ H b1 = some (.cells (c36 a0) 36) ∧ b1 < n) trivial (fun J5 hJ5 => ?_) ?_
    · skip
      refine evY_sound (f := 1) ?_; simp [-splice, f1, b_b1]
      refine Stk.gen (fun t H n => t 1 = .own b1 0 ∧ t 4 = .sc (.int .i64 0) ∧ H b1 = some (.cells (c36 a0) 36) ∧ b1 < n) (by and_intros <;> first | assumption | simp [-splice, f1, b_b1]) ?_
      clear f1 b_b1 l_b1
      rintro t H n ⟨f1, f4, b_b1, l_b1⟩
      refine Stk.lo (fun μ t H n => ∃ v14 : Int, R04_Fit_L1 F a0 K5 μ v14 = some r ∧ t 1 = .own b1 0 ∧ t 4 = .sc (.int .i64 v14) ∧ H b1 = some (.cells (c36 a0) 36) ∧ b1 < n) F ⟨0, h, f1, f4, b_b1, l_b1⟩ ?_
      clear h f1 f4 b_b1 l_b1
      rintro J6 hJ6 μ t H n ⟨v14, h, f1, f4, b_b1, l_b1⟩
      cases μ with
      | zero => exact absurd h (by simp [R04_Fit_L1])
      | succ μ =>
      rw [R04_Fit_L1] at h
      refine evY_sound (f := 9) ?_; simp [-splice, f1, f4, b_b1, ld_36_1_23]
      refine Stk.cond (decide (v14 < (a0.Funs.length : Int))) (by simp [-splice, f1, f4, b_b1, ld_36_1_23]) (fun hb16 => ?_) (fun hb16 => ?_)
      ·have h := cT hb16 h
       obtain ⟨x17, hx17, h⟩ := bnd h
       obtain ⟨i0x17, i1x17, i2x17, _⟩ := idx_ok hx17
       have ex17_0_77 : partOf T.T 77 (encs c77 a0.Funs) (v14.toNat * 15) = some (.agg (c77 x17)) := by
           have e0 := part_elem0 (e := c77) (z := 15) (T := T.T) (ty := 77) T.t77 (by decide) (by decide) hx17 0 (by decide)
           (try simp only [Nat.mul_one, Nat.add_zero] at e0)
           exact e0.trans (ld_77_0_77 _)
       obtain ⟨x18, hx18, h⟩ := bnd h
       refine evY_sound (f := 10) ?_; simp [-splice, f1, f4, b_b1, ld_36_1_23, i0x17, i1x17, pd77, ex17_0_77]
       refine Stk.cv (g := 44) (args := [.agg (c77 x17)]) (args' := [.agg (c77 x17)]) (v := .sc (.bool x18)) [] (ok_R04_fitFun F _ _ hx18) (by simp [-splice, f1, f4, b_b1, ld_36_1_23, i0x17, i1x17, pd77, ex17_0_77]) rfl rfl (by simp [-splice, f1, f4, b_b1, ld_36_1_23, i0x17, i1x17, pd77, ex17_0_77]) (.cons (.free (fr77 _)) (.nil)) (.inl ⟨rfl, rfl⟩) (fun t' ht' => ?_)
       subst ht'
       refine evY_sound (f := 2) ?_; simp [-splice, f1, f4, b_b1, ld_36_1_23, i0x17, i1x17, pd77, ex17_0_77]
       refine Stk.cond (!x18) (by simp [-splice, f1, f4, b_b1, ld_36_1_23, i0x17, i1x17, pd77, ex17_0_77]) (fun hb19 => ?_) (fun hb19 => ?_)
       ·have h := cT hb19 h
        refine evY_sound (f := 5) ?_; simp [-splice, f1, f4, b_b1, ld_36_1_23, i0x17, i1x17, pd77, ex17_0_77]
        have hq := Option.some.inj h; subst hq
        exact (hr _ _ _ (.sc (.bool false)) ([]) (by simp [-splice, f1, f4, b_b1, ld_36_1_23, i0x17, i1x17, pd77, ex17_0_77]) (.inr (.inr (.free (rfl))))).1
       ·have h := cF hb19 h
        refine evY_sound (f := 7) ?_; simp [-splice, f1, f4, b_b1, ld_36_1_23, i0x17, i1x17, pd77, ex17_0_77]
        exact Stk.ln μ (Nat.lt_succ_self _) (hJ6 _ _ _ _ ⟨(IntKind.i64.wrap (v14 + 1)), h, by and_intros <;> first | assumption | simp [-splice, f1, f4, b_b1, ld_36_1_23, i0x17, i1x17, pd77, ex17_0_77]⟩)
      ·have h := cF hb16 h
       refine Stk.ex rfl ?_
       exact Stk.ln 0 (by decide) (hJ5 _ _ _ ⟨h, by simp [-splice, f1, f4, b_b1, ld_36_1_23], b_b1, l_b1⟩)
    clear h f1 b_b1 l_b1
    rintro t H n ⟨h, f1, b_b1, l_b1⟩
    subst hK5
    refine evY_sound (f := 6) ?_; simp [-splice, f1, b_b1]
    refine Stk.gen (fun t H n => t 1 = .own b1 0 ∧ t 5 = .sc (.int .i64 0) ∧ H b1 = some (.cells (c36 a0) 36) ∧ b1 < n) (by and_intros <;> first | assumption | simp [-splice, f1, b_b1]) ?_
    clear f1 b_b1 l_b1
    rintro t H n ⟨f1, f5, b_b1, l_b1⟩
    refine Stk.lo (fun μ t H n => ∃ v20 : Int, R04_Fit_L2 F a0 μ v20 = some r ∧ t 1 = .own b1 0 ∧ t 5 = .sc (.int .i64 v20) ∧ H b1 = some (.cells (c36 a0) 36) ∧ b1 < n) F ⟨0, h, f1, f5, b_b1, l_b1⟩ ?_
    clear h f1 f5 b_b1 l_b1
    rintro J7 hJ7 μ t H n ⟨v20, h, f1, f5, b_b1, l_b1⟩
    cases μ with
    | zero => exact absurd h (by simp [R04_Fit_L2])
    | succ μ =>
    rw [R04_Fit_L2] at h
    refine evY_sound (f := 9) ?_; simp [-splice, f1, f5, b_b1, ld_36_16_34]
    refine Stk.cond (decide (v20 < (a0.Hands.length : Int))) (by simp [-splice, f1, f5, b_b1, ld_36_16_34]) (fun hb22 => ?_) (fun hb22 => ?_)
    ·have h := cT hb22 h
     obtain ⟨x23, hx23, h⟩ := bnd h
     obtain ⟨i0x23, i1x23, i2x23, _⟩ := idx_ok hx23
     have ex23_0_83 : partOf T.T 83 (encs c83 a0.Hands) (v20.toNat * 16) = some (.agg (c83 x23)) := by
         have e0 := part_elem0 (e := c83) (z := 16) (T := T.T) (ty := 83) T.t83 (by decide) (by decide) hx23 0 (by decide)
         (try simp only [Nat.mul_one, Nat.add_zero] at e0)
         exact e0.trans (ld_83_0_83 _)
     refine evY_sound (f := 10) ?_; simp [-splice, f1, f5, b_b1, ld_36_16_34, i0x23, i1x23, pd83, ex23_0_83]
     refine Stk.gen (fun t H n => t 1 = .own b1 0 ∧ t 5 = .sc (.int .i64 v20) ∧ t 102 = .agg (c83 x23) ∧ H b1 = some (.cells (c36 a0) 36) ∧ b1 < n) (by and_intros <;> first | assumption | simp [-splice, f1, f5, b_b1, ld_36_16_34, i0x23, i1x23, pd83, ex23_0_83]) ?_
     clear f1 f5 b_b1 l_b1
     rintro t H n ⟨f1, f5, f102, b_b1, l_b1⟩
     refine Stk.oz T.t83 (cs := c83 (api_Hand.mk (api_Pos.mk 0 0) ⟨#[]⟩ (api_Param.mk ⟨#[]⟩ (api_Type.mk 0 ⟨#[]⟩ [])) 0 (api_Expr.mk 0 (api_Pos.mk 0 0) 0 [] ⟨#[]⟩ [] []))) (by rfl) rfl (by simp [f1, f5, f102]) rfl (fun t' ht' => ?_)
     refine Stk.gen (fun t H n => ∃ b24, t 1 = .own b1 0 ∧ t 5 = .sc (.int .i64 v20) ∧ t 6 = .own b24 0 ∧ t 102 = .agg (c83 x23) ∧ H b1 = some (.cells (c36 a0) 36) ∧ b1 < n ∧ H b24 = some (.cells (c83 (api_Hand.mk (api_Pos.mk 0 0) ⟨#[]⟩ (api_Param.mk ⟨#[]⟩ (api_Type.mk 0 ⟨#[]⟩ [])) 0 (api_Expr.mk 0 (api_Pos.mk 0 0) 0 [] ⟨#[]⟩ [] []))) 83) ∧ b24 < n ∧ b1 ≠ b24) ⟨n, by simp [ht', f1], by simp [ht', f5], by simp [ht'], by simp [ht', f102], (upd_ne _ _ (Nat.ne_of_lt l_b1)).trans b_b1, Nat.lt_succ_of_lt l_b1, upd_same _ _ _, Nat.lt_succ_self _, Nat.ne_of_lt l_b1⟩ ?_
     clear f1 f5 f102 b_b1 l_b1 ht' t'
     rintro t H n ⟨b24, f1, f5, f6, f102, b_b1, l_b1, b_b24, l_b24, d_b1_b24⟩
     refine Stk.om (mop_store (z := 16) rfl f6 b_b24 f102 (len83 _) (by rw [len83]; decide) (ok83 _) (st_83_0_83 _ _)) (by simp [f1, f5, f6, f102]) rfl (fun t' ht' => ?_)
     refine Stk.gen (fun t H n => t 1 = .own b1 0 ∧ t 5 = .sc (.int .i64 v20) ∧ t 6 = .own b24 0 ∧ H b1 = some (.cells (c36 a0) 36) ∧ b1 < n ∧ H b24 = some (.cells (c83 x23) 83) ∧ b24 < n ∧ b1 ≠ b24) ⟨by simp [ht', f1], by simp [ht', f5], by simp [ht', f6], (upd_ne _ _ d_b1_b24).trans b_b1, l_b1, upd_same _ _ _, l_b24, d_b1_b24⟩ ?_
     clear f1 f5 f6 f102 b_b1 l_b1 b_b24 l_b24 d_b1_b24 ht' t'
     rintro t H n ⟨f1, f5, f6, b_b1, l_b1, b_b24, l_b24, d_b1_b24⟩
     obtain ⟨x25, hx25, h⟩ := bnd h
     refine evY_sound (f := 5) ?_; simp [-splice, f1, f5, f6, b_b1, b_b24, ld_83_2_9]
     refine Stk.cv (g := 45) (args := [.sc (.string x23.Name), .sc (.bool false)]) (args' := [.sc (.string x23.Name), .sc (.bool false)]) (v := .sc (.bool x25)) [] (ok_R03_Named F _ _ _ hx25) (by simp [-splice, f1, f5, f6, b_b1, b_b24, ld_83_2_9]) rfl rfl (by simp [-splice, f1, f5, f6, b_b1, b_b24, ld_83_2_9]) (.cons (.free (rfl)) (.cons (.free (rfl)) (.nil))) (.inl ⟨rfl, rfl⟩) (fun t' ht' => ?_)
     subst ht'
     refine evY_sound (f := 2) ?_; simp [-splice, f1, f5, f6, b_b1, b_b24, ld_83_2_9]
     refine Stk.gen (fun t H n => t 1 = .own b1 0 ∧ t 5 = .sc (.int .i64 v20) ∧ t 6 = .own b24 0 ∧ t 107 = .sc (.bool (!x25)) ∧ H b1 = some (.cells (c36 a0) 36) ∧ b1 < n ∧ H b24 = some (.cells (c83 x23) 83) ∧ b24 < n ∧ b1 ≠ b24) (by and_intros <;> first | assumption | simp [-splice, f1, f5, f6, b_b1, b_b24, ld_83_2_9]) ?_
     clear f1 f5 f6 b_b1 l_b1 b_b24 l_b24 d_b1_b24
     rintro t H n ⟨f1, f5, f6, f107, b_b1, l_b1, b_b24, l_b24, d_b1_b24⟩
     obtain ⟨K8, hK8, h⟩ := jnd h
     refine Stk.jo 5 (fun t H n => ∃ v26 : Bool, K8 v26 = some r ∧ t 1 = .own b1 0 ∧ t 5 = .sc (.int .i64 v20) ∧ t 6 = .own b24 0 ∧ t 112 = .sc (.bool v26) ∧ H b1 = some (.cells (c36 a0) 36) ∧ b1 < n ∧ H b24 = some (.cells (c83 x23) 83) ∧ b24 < n ∧ b1 ≠ b24) (fun J8 hJ8 => ?_) ?_
     · rcases Bool.eq_false_or_eq_true (!x25) with hb8 | hb8
       · rw [hb8] at f107
         replace h := cT hb8 h
         refine evY_sound (f := 6) ?_; simp [-splice, f1, f5, f6, f107, b_b1, b_b24]
         exact Stk.ln 0 (by decide) (hJ8 _ _ _ ⟨true, h, by and_intros <;> first | assumption | simp [-splice, f1, f5, f6, f107, b_b1, b_b24]⟩)
       · rw [hb8] at f107
         replace h := cF hb8 h
         obtain ⟨x27, hx27, h⟩ := bnd h
         refine evY_sound (f := 2) ?_; simp [-splice, f1, f5, f6, f107, b_b1, b_b24, ld_83_3_81]
         refine Stk.cv (g := 46) (args := [.agg (c81 x23.Param)]) (args' := [.agg (c81 x23.Param)]) (v := .sc (.bool x27)) [] (ok_R04_fitParam F _ _ hx27) (by simp [-splice, f1, f5, f6, f107, b_b1, b_b24, ld_83_3_81]) rfl rfl (by simp [-splice, f1, f5, f6, f107, b_b1, b_b24, ld_83_3_81]) (.cons (.free (fr81 _)) (.nil)) (.inl ⟨rfl, rfl⟩) (fun t' ht' => ?_)
         subst ht'
         refine evY_sound (f := 3) ?_; simp [-splice, f1, f5, f6, f107, b_b1, b_b24, ld_83_3_81]
         exact Stk.ln 0 (by decide) (hJ8 _ _ _ ⟨(!x27), h, by and_intros <;> first | assumption | simp [-splice, f1, f5, f6, f107, b_b1, b_b24, ld_83_3_81]⟩)
     clear h f1 f5 f6 f107 b_b1 l_b1 b_b24 l_b24 d_b1_b24
     rintro t H n ⟨v26, h, f1, f5, f6, f112, b_b1, l_b1, b_b24, l_b24, d_b1_b24⟩
     subst hK8
     refine evY_sound (f := 1) ?_; simp [-splice, f1, f5, f6, f112, b_b1, b_b24]
     refine Stk.gd 4 113 117 (fun z => .sc (.bool (z || (decide (x23.Cap < 0))))) (w := v26) (by simp [-splice, f1, f5, f6, f112, b_b1, b_b24]) (by simp [-splice, f1, f5, f6, f112, b_b1, b_b24, ld_83_7_3]) (by simp [-splice, f1, f5, f6, f112, b_b1, b_b24, ld_83_7_3]) ?_; simp [-splice, f1, f5, f6, f112, b_b1, b_b24]
     refine evY_sound (f := 1) ?_; simp [-splice, f1, f5, f6, f112, b_b1, b_b24]
     refine Stk.gd 4 118 122 (fun z => .sc (.bool (z || (decide (64 < x23.Cap))))) (w := (v26 || (decide (x23.Cap < 0)))) (by simp [-splice, f1, f5, f6, f112, b_b1, b_b24]) (by simp [-splice, f1, f5, f6, f112, b_b1, b_b24, ld_83_7_3]) (by simp [-splice, f1, f5, f6, f112, b_b1, b_b24, ld_83_7_3]) ?_; simp [-splice, f1, f5, f6, f112, b_b1, b_b24]
     refine evY_sound (f := 1) ?_; simp [-splice, f1, f5, f6, f112, b_b1, b_b24]
     refine Stk.gen (fun t H n => t 1 = .own b1 0 ∧ t 5 = .sc (.int .i64 v20) ∧ t 6 = .own b24 0 ∧ t 123 = .sc (.bool ((v26 || (decide (x23.Cap < 0))) || (decide (64 < x23.Cap)))) ∧ H b1 = some (.cells (c36 a0) 36) ∧ b1 < n ∧ H b24 = some (.cells (c83 x23) 83) ∧ b24 < n ∧ b1 ≠ b24) (by and_intros <;> first | assumption | simp [-splice, f1, f5, f6, f112, b_b1, b_b24]) ?_
     clear f1 f5 f6 f112 b_b1 l_b1 b_b24 l_b24 d_b1_b24
     rintro t H n ⟨f1, f5, f6, f123, b_b1, l_b1, b_b24, l_b24, d_b1_b24⟩
     obtain ⟨K9, hK9, h⟩ := jnd h
     refine Stk.jo 5 (fun t H n => ∃ v28 : Bool, K9 v28 = some r ∧ t 1 = .own b1 0 ∧ t 5 = .sc (.int .i64 v20) ∧ t 128 = .sc (.bool v28) ∧ H b1 = some (.cells (c36 a0) 36) ∧ b1 < n) (fun J9 hJ9 => ?_) ?_
     · rcases Bool.eq_false_or_eq_true ((v26 || (decide (x23.Cap < 0))) || (decide (64 < x23.Cap))) with hb9 | hb9
       · rw [hb9] at f123
         replace h := cT hb9 h
         refine evY_sound (f := 6) ?_; simp [-splice, f1, f5, f6, f123, b_b1, b_b24]
         exact Stk.ln 0 (by decide) (hJ9 _ _ _ ⟨true, h, by and_intros <;> first | assumption | simp [-splice, f1, f5, f6, f123, b_b1, b_b24]⟩)
       · rw [hb9] at f123
         replace h := cF hb9 h
         obtain ⟨x29, hx29, h⟩ := bnd h
         refine evY_sound (f := 2) ?_; simp [-splice, f1, f5, f6, f123, b_b1, b_b24, ld_83_8_33]
         refine Stk.cv (g := 15) (args := [.agg (c33 x23.Body)]) (args' := [.agg (c33 x23.Body)]) (v := .sc (.bool x29)) [] (ok_R04_FitExpr F _ _ hx29) (by simp [-splice, f1, f5, f6, f123, b_b1, b_b24, ld_83_8_33]) rfl rfl (by simp [-splice, f1, f5, f6, f123, b_b1, b_b24, ld_83_8_33]) (.cons (.free (fr33 _)) (.nil)) (.inl ⟨rfl, rfl⟩) (fun t' ht' => ?_)
         subst ht'
         refine evY_sound (f := 3) ?_; simp [-splice, f1, f5, f6, f123, b_b1, b_b24, ld_83_8_33]
         exact Stk.ln 0 (by decide) (hJ9 _ _ _ ⟨(!x29), h, by and_intros <;> first | assumption | simp [-splice, f1, f5, f6, f123, b_b1, b_b24, ld_83_8_33]⟩)
     clear h f1 f5 f6 f123 b_b1 l_b1 b_b24 l_b24 d_b1_b24
     rintro t H n ⟨v28, h, f1, f5, f128, b_b1, l_b1⟩
     subst hK9
     refine evY_sound (f := 1) ?_; simp [-splice, f1, f5, f128, b_b1]
     refine Stk.cond v28 (by simp [-splice, f1, f5, f128, b_b1]) (fun hb30 => ?_) (fun hb30 => ?_)
     ·have h := cT hb30 h
      refine evY_sound (f := 5) ?_; simp [-splice, f1, f5, f128, b_b1]
      have hq := Option.some.inj h; subst hq
      exact (hr _ _ _ (.sc (.bool false)) ([]) (by simp [-splice, f1, f5, f128, b_b1]) (.inr (.inr (.free (rfl))))).1
     ·have h := cF hb30 h
      refine evY_sound (f := 7) ?_; simp [-splice, f1, f5, f128, b_b1]
      exact Stk.ln μ (Nat.lt_succ_self _) (hJ7 _ _ _ _ ⟨(IntKind.i64.wrap (v20 + 1)), h, by and_intros <;> first | assumption | simp [-splice, f1, f5, f128, b_b1]⟩)
    ·have h := cF hb22 h
     refine Stk.ex rfl ?_
     refine evY_sound (f := 5) ?_; simp [-splice, f1, f5, b_b1, ld_36_16_34]
     have hq := Option.some.inj h; subst hq
     exact (hr _ _ _ (.sc (.bool true)) ([]) (by simp [-splice, f1, f5, b_b1, ld_36_16_34]) (.inr (.inr (.free (rfl))))).1
theorem ok_ast_FitPat (F : Nat) (a0 : api_Pat) (r : Bool) (h : ast_FitPat F a0 = some r) : RunF Tryz.prog T.T 16 [.agg (c39 a0)] (.sc (.bool r)) := by
  rw [ast_FitPat] at h
  refine RunF.z Tryz.func16 rfl rfl rfl rfl rfl (fun C hr => ?_)
  refine Stk.gen (fun t H n => t 0 = .agg (c39 a0)) (by simp) ?_
  rintro t H n f0
  refine evY_sound (f := 2) ?_; simp [-splice, f0]
  refine Stk.gen (fun t H n => t 0 = .agg (c39 a0)) (by simp [-splice, f0]) ?_
  clear f0
  rintro t H n f0
  refine Stk.om (mop_box T.t39 (cs := c39 a0) (by show partOk (t 0) = true; rw [f0]; rfl) (by show cellsOf (t 0) = _; rw [f0]; rfl)) (by simp [f0]) rfl (fun t' ht' => ?_)
  refine Stk.gen (fun t H n => ∃ b1, t 1 = .own b1 0 ∧ H b1 = some (.cells (c39 a0) 39) ∧ b1 < n) ⟨n, by simp [ht'], upd_same _ _ _, Nat.lt_succ_self _⟩ ?_
  clear f0 ht' t'
  rintro t H n ⟨b1, f1, b_b1, l_b1⟩
  obtain ⟨x2, hx2, h⟩ := bnd h
  refine evY_sound (f := 5) ?_; simp [-splice, f1, b_b1, ld_39_0_39]
  refine Stk.cv (g := 49) (args := [.sc (.int .i64 64), .agg (c39 a0)]) (args' := [.sc (.int .i64 64), .agg (c39 a0)]) (v := .sc (.bool x2)) [] (ok_ast_depth_fitPat F _ _ _ hx2) (by simp [-splice, f1, b_b1, ld_39_0_39]) rfl rfl (by simp [-splice, f1, b_b1, ld_39_0_39]) (.cons (.free (rfl)) (.cons (.free (fr39 _)) (.nil))) (.inl ⟨rfl, rfl⟩) (fun t' ht' => ?_)
  subst ht'
  refine evY_sound (f := 3) ?_; simp [-splice, f1, b_b1, ld_39_0_39]
  have hq := Option.some.inj h; subst hq
  exact (hr _ _ _ (.sc (.bool x2)) ([]) (by simp [-splice, f1, b_b1, ld_39_0_39]) (.inr (.inr (.free (rfl))))).1
theorem ok_R04_FitPat (F : Nat) (a0 : api_Pat) (r : Bool) (h : R04_FitPat F a0 = some r) : RunF Tryz.prog T.T 17 [.agg (c39 a0)] (.sc (.bool r)) := by
  rw [R04_FitPat] at h
  refine RunF.z Tryz.func17 rfl rfl rfl rfl rfl (fun C hr => ?_)
  refine Stk.gen (fun t H n => t 0 = .agg (c39 a0)) (by simp) ?_
  rintro t H n f0
  refine evY_sound (f := 2) ?_; simp [-splice, f0]
  refine Stk.gen (fun t H n => t 0 = .agg (c39 a0)) (by simp [-splice, f0]) ?_
  clear f0
  rintro t H n f0
  refine Stk.om (mop_box T.t39 (cs := c39 a0) (by show partOk (t 0) = true; rw [f0]; rfl) (by show cellsOf (t 0) = _; rw [f0]; rfl)) (by simp [f0]) rfl (fun t' ht' => ?_)
  refine Stk.gen (fun t H n => ∃ b1, t 1 = .own b1 0 ∧ H b1 = some (.cells (c39 a0) 39) ∧ b1 < n) ⟨n, by simp [ht'], upd_same _ _ _, Nat.lt_succ_self _⟩ ?_
  clear f0 ht' t'
  rintro t H n ⟨b1, f1, b_b1, l_b1⟩
  obtain ⟨x2, hx2, h⟩ := bnd h
  refine evY_sound (f := 5) ?_; simp [-splice, f1, b_b1, ld_39_0_39]
  refine Stk.cv (g := 50) (args := [.agg (c39 a0), .sc (.int .i64 64)]) (args' := [.agg (c39 a0), .sc (.int .i64 64)]) (v := .sc (.bool x2)) [] (ok_R04_fitPat F _ _ _ hx2) (by simp [-splice, f1, b_b1, ld_39_0_39]) rfl rfl (by simp [-splice, f1, b_b1, ld_39_0_39]) (.cons (.free (fr39 _)) (.cons (.free (rfl)) (.nil))) (.inl ⟨rfl, rfl⟩) (fun t' ht' => ?_)
  subst ht'
  refine evY_sound (f := 3) ?_; simp [-splice, f1, b_b1, ld_39_0_39]
  have hq := Option.some.inj h; subst hq
  exact (hr _ _ _ (.sc (.bool x2)) ([]) (by simp [-splice, f1, b_b1, ld_39_0_39]) (.inr (.inr (.free (rfl))))).1
theorem ok_L04_AstFits (F : Nat) (a0 : api_Prog) (a1 : api_Expr) (a2 : api_Pat) (a3 : api_Type) (r : Bool) (h : L04_AstFits F a0 a1 a2 a3 = some r) : RunF Tryz.prog T.T 3 [.agg (c36 a0), .agg (c33 a1), .agg (c39 a2), .agg (c26 a3)] (.sc (.bool r)) := by
  rw [L04_AstFits] at h
  refine RunF.z Tryz.func3 rfl rfl rfl rfl rfl (fun C hr => ?_)
  refine Stk.gen (fun t H n => t 0 = .agg (c36 a0) ∧ t 1 = .agg (c33 a1) ∧ t 2 = .agg (c39 a2) ∧ t 3 = .agg (c26 a3)) ⟨by simp, by simp, by simp, by simp⟩ ?_
  rintro t H n ⟨f0, f1, f2, f3⟩
  refine evY_sound (f := 2) ?_; simp [-splice, f0, f1, f2, f3]
  refine Stk.gen (fun t H n => t 0 = .agg (c36 a0) ∧ t 1 = .agg (c33 a1) ∧ t 2 = .agg (c39 a2) ∧ t 3 = .agg (c26 a3)) (by and_intros <;> first | assumption | simp [-splice, f0, f1, f2, f3]) ?_
  clear f0 f1 f2 f3
  rintro t H n ⟨f0, f1, f2, f3⟩
  refine Stk.om (mop_box T.t36 (cs := c36 a0) (by show partOk (t 0) = true; rw [f0]; rfl) (by show cellsOf (t 0) = _; rw [f0]; rfl)) (by simp [f0, f1, f2, f3]) rfl (fun t' ht' => ?_)
  refine Stk.gen (fun t H n => ∃ b1, t 1 = .agg (c33 a1) ∧ t 2 = .agg (c39 a2) ∧ t 3 = .agg (c26 a3) ∧ t 4 = .own b1 0 ∧ H b1 = some (.cells (c36 a0) 36) ∧ b1 < n) ⟨n, by simp [ht', f1], by simp [ht', f2], by simp [ht', f3], by simp [ht'], upd_same _ _ _, Nat.lt_succ_self _⟩ ?_
  clear f0 f1 f2 f3 ht' t'
  rintro t H n ⟨b1, f1, f2, f3, f4, b_b1, l_b1⟩
  refine Stk.om (mop_box T.t33 (cs := c33 a1) (by show partOk (t 1) = true; rw [f1]; rfl) (by show cellsOf (t 1) = _; rw [f1]; rfl)) (by simp [f1, f2, f3, f4]) rfl (fun t' ht' => ?_)
  refine Stk.gen (fun t H n => ∃ b2, t 2 = .agg (c39 a2) ∧ t 3 = .agg (c26 a3) ∧ t 4 = .own b1 0 ∧ t 5 = .own b2 0 ∧ H b1 = some (.cells (c36 a0) 36) ∧ b1 < n ∧ H b2 = some (.cells (c33 a1) 33) ∧ b2 < n ∧ b1 ≠ b2) ⟨n, by simp [ht', f2], by simp [ht', f3], by simp [ht', f4], by simp [ht'], (upd_ne _ _ (Nat.ne_of_lt l_b1)).trans b_b1, Nat.lt_succ_of_lt l_b1, upd_same _ _ _, Nat.lt_succ_self _, Nat.ne_of_lt l_b1⟩ ?_
  clear f1 f2 f3 f4 b_b1 l_b1 ht' t'
  rintro t H n ⟨b2, f2, f3, f4, f5, b_b1, l_b1, b_b2, l_b2, d_b1_b2⟩
  refine Stk.om (mop_box T.t39 (cs := c39 a2) (by show partOk (t 2) = true; rw [f2]; rfl) (by show cellsOf (t 2) = _; rw [f2]; rfl)) (by simp [f2, f3, f4, f5]) rfl (fun t' ht' => ?_)
  refine Stk.gen (fun t H n => ∃ b3, t 3 = .agg (c26 a3) ∧ t 4 = .own b1 0 ∧ t 5 = .own b2 0 ∧ t 6 = .own b3 0 ∧ H b1 = some (.cells (c36 a0) 36) ∧ b1 < n ∧ H b2 = some (.cells (c33 a1) 33) ∧ b2 < n ∧ H b3 = some (.cells (c39 a2) 39) ∧ b3 < n ∧ b1 ≠ b2 ∧ b1 ≠ b3 ∧ b2 ≠ b3) ⟨n, by simp [ht', f3], by simp [ht', f4], by simp [ht', f5], by simp [ht'], (upd_ne _ _ (Nat.ne_of_lt l_b1)).trans b_b1, Nat.lt_succ_of_lt l_b1, (upd_ne _ _ (Nat.ne_of_lt l_b2)).trans b_b2, Nat.lt_succ_of_lt l_b2, upd_same _ _ _, Nat.lt_succ_self _, d_b1_b2, Nat.ne_of_lt l_b1, Nat.ne_of_lt l_b2⟩ ?_
  clear f2 f3 f4 f5 b_b1 l_b1 b_b2 l_b2 d_b1_b2 ht' t'
  rintro t H n ⟨b3, f3, f4, f5, f6, b_b1, l_b1, b_b2, l_b2, b_b3, l_b3, d_b1_b2, d_b1_b3, d_b2_b3⟩
  refine Stk.om (mop_box T.t26 (cs := c26 a3) (by show partOk (t 3) = true; rw [f3]; rfl) (by show cellsOf (t 3) = _; rw [f3]; rfl)) (by simp [f3, f4, f5, f6]) rfl (fun t' ht' => ?_)
  refine Stk.gen (fun t H n => ∃ b4, t 4 = .own b1 0 ∧ t 5 = .own b2 0 ∧ t 6 = .own b3 0 ∧ t 7 = .own b4 0 ∧ H b1 = some (.cells (c36 a0) 36) ∧ b1 < n ∧ H b2 = some (.cells (c33 a1) 33) ∧ b2 < n ∧ H b3 = some (.cells (c39 a2) 39) ∧ b3 < n ∧ H b4 = some (.cells (c26 a3) 26) ∧ b4 < n ∧ b1 ≠ b2 ∧ b1 ≠ b3 ∧ b2 ≠ b3 ∧ b1 ≠ b4 ∧ b2 ≠ b4 ∧ b3 ≠ b4) ⟨n, by simp [ht', f4], by simp [ht', f5], by simp [ht', f6], by simp [ht'], (upd_ne _ _ (Nat.ne_of_lt l_b1)).trans b_b1, Nat.lt_succ_of_lt l_b1, (upd_ne _ _ (Nat.ne_of_lt l_b2)).trans b_b2, Nat.lt_succ_of_lt l_b2, (upd_ne _ _ (Nat.ne_of_lt l_b3)).trans b_b3, Nat.lt_succ_of_lt l_b3, upd_same _ _ _, Nat.lt_succ_self _, d_b1_b2, d_b1_b3, d_b2_b3, Nat.ne_of_lt l_b1, Nat.ne_of_lt l_b2, Nat.ne_of_lt l_b3⟩ ?_
  clear f3 f4 f5 f6 b_b1 l_b1 b_b2 l_b2 b_b3 l_b3 d_b1_b2 d_b1_b3 d_b2_b3 ht' t'
  rintro t H n ⟨b4, f4, f5, f6, f7, b_b1, l_b1, b_b2, l_b2, b_b3, l_b3, b_b4, l_b4, d_b1_b2, d_b1_b3, d_b2_b3, d_b1_b4, d_b2_b4, d_b3_b4⟩
  obtain ⟨x5, hx5, h⟩ := bnd h
  refine evY_sound (f := 6) ?_; simp [-splice, f4, f5, f6, f7, b_b1, b_b2, b_b3, b_b4, ld_36_0_36]
  refine Stk.cv (g := 7) (args := [.agg (c36 a0)]) (args' := [.agg (c36 a0)]) (v := .sc (.bool x5)) [] (ok_L04_light F _ _ hx5) (by simp [-splice, f4, f5, f6, f7, b_b1, b_b2, b_b3, b_b4, ld_36_0_36]) rfl rfl (by simp [-splice, f4, f5, f6, f7, b_b1, b_b2, b_b3, b_b4, ld_36_0_36]) (.cons (.free (fr36 _)) (.nil)) (.inl ⟨rfl, rfl⟩) (fun t' ht' => ?_)
  subst ht'
  refine evY_sound (f := 2) ?_; simp [-splice, f4, f5, f6, f7, b_b1, b_b2, b_b3, b_b4, ld_36_0_36]
  refine Stk.gen (fun t H n => t 4 = .own b1 0 ∧ t 5 = .own b2 0 ∧ t 6 = .own b3 0 ∧ t 7 = .own b4 0 ∧ t 12 = .sc (.bool (!x5)) ∧ H b1 = some (.cells (c36 a0) 36) ∧ b1 < n ∧ H b2 = some (.cells (c33 a1) 33) ∧ b2 < n ∧ H b3 = some (.cells (c39 a2) 39) ∧ b3 < n ∧ H b4 = some (.cells (c26 a3) 26) ∧ b4 < n ∧ b1 ≠ b2 ∧ b1 ≠ b3 ∧ b2 ≠ b3 ∧ b1 ≠ b4 ∧ b2 ≠ b4 ∧ b3 ≠ b4) (by and_intros <;> first | assumption | simp [-splice, f4, f5, f6, f7, b_b1, b_b2, b_b3, b_b4, ld_36_0_36]) ?_
  clear f4 f5 f6 f7 b_b1 l_b1 b_b2 l_b2 b_b3 l_b3 b_b4 l_b4 d_b1_b2 d_b1_b3 d_b2_b3 d_b1_b4 d_b2_b4 d_b3_b4
  rintro t H n ⟨f4, f5, f6, f7, f12, b_b1, l_b1, b_b2, l_b2, b_b3, l_b3, b_b4, l_b4, d_b1_b2, d_b1_b3, d_b2_b3, d_b1_b4, d_b2_b4, d_b3_b4⟩
  obtain ⟨K1, hK1, h⟩ := jnd h
  refine Stk.jo 4 (fun t H n => ∃ v6 : Bool, K1 v6 = some r ∧ t 4 = .own b1 0 ∧ t 5 = .own b2 0 ∧ t 6 = .own b3 0 ∧ t 7 = .own b4 0 ∧ t 16 = .sc (.bool v6) ∧ H b1 = some (.cells (c36 a0) 36) ∧ b1 < n ∧ H b2 = some (.cells (c33 a1) 33) ∧ b2 < n ∧ H b3 = some (.cells (c39 a2) 39) ∧ b3 < n ∧ H b4 = some (.cells (c26 a3) 26) ∧ b4 < n ∧ b1 ≠ b2 ∧ b1 ≠ b3 ∧ b2 ≠ b3 ∧ b1 ≠ b4 ∧ b2 ≠ b4 ∧ b3 ≠ b4) (fun J1 hJ1 => ?_) ?_
  · rcases Bool.eq_false_or_eq_true (!x5) with hb1 | hb1
    · rw [hb1] at f12
      replace h := cT hb1 h
      refine evY_sound (f := 5) ?_; simp [-splice, f4, f5, f6, f7, f12, b_b1, b_b2, b_b3, b_b4]
      exact Stk.ln 0 (by decide) (hJ1 _ _ _ ⟨true, h, by and_intros <;> first | assumption | simp [-splice, f4, f5, f6, f7, f12, b_b1, b_b2, b_b3, b_b4]⟩)
    · rw [hb1] at f12
      replace h := cF hb1 h
      obtain ⟨x7, hx7, h⟩ := bnd h
      refine evY_sound (f := 1) ?_; simp [-splice, f4, f5, f6, f7, f12, b_b1, b_b2, b_b3, b_b4, ld_33_0_33]
      refine Stk.cv (g := 8) (args := [.agg (c33 a1), .sc (.int .i64 3000)]) (args' := [.agg (c33 a1), .sc (.int .i64 3000)]) (v := .sc (.int .i64 x7)) [] (ok_R04_Light F _ _ _ hx7) (by simp [-splice, f4, f5, f6, f7, f12, b_b1, b_b2, b_b3, b_b4, ld_33_0_33]) rfl rfl (by simp [-splice, f4, f5, f6, f7, f12, b_b1, b_b2, b_b3, b_b4, ld_33_0_33]) (.cons (.free (fr33 _)) (.cons (.free (rfl)) (.nil))) (.inl ⟨rfl, rfl⟩) (fun t' ht' => ?_)
      subst ht'
      refine evY_sound (f := 3) ?_; simp [-splice, f4, f5, f6, f7, f12, b_b1, b_b2, b_b3, b_b4, ld_33_0_33]
      exact Stk.ln 0 (by decide) (hJ1 _ _ _ ⟨(decide (x7 < 0)), h, by and_intros <;> first | assumption | simp [-splice, f4, f5, f6, f7, f12, b_b1, b_b2, b_b3, b_b4, ld_33_0_33]⟩)
  clear h f4 f5 f6 f7 f12 b_b1 l_b1 b_b2 l_b2 b_b3 l_b3 b_b4 l_b4 d_b1_b2 d_b1_b3 d_b2_b3 d_b1_b4 d_b2_b4 d_b3_b4
  rintro t H n ⟨v6, h, f4, f5, f6, f7, f16, b_b1, l_b1, b_b2, l_b2, b_b3, l_b3, b_b4, l_b4, d_b1_b2, d_b1_b3, d_b2_b3, d_b1_b4, d_b2_b4, d_b3_b4⟩
  subst hK1
  refine evY_sound (f := 1) ?_; simp [-splice, f4, f5, f6, f7, f16, b_b1, b_b2, b_b3, b_b4]
  refine Stk.gen (fun t H n => t 4 = .own b1 0 ∧ t 5 = .own b2 0 ∧ t 6 = .own b3 0 ∧ t 7 = .own b4 0 ∧ t 17 = .sc (.bool v6) ∧ H b1 = some (.cells (c36 a0) 36) ∧ b1 < n ∧ H b2 = some (.cells (c33 a1) 33) ∧ b2 < n ∧ H b3 = some (.cells (c39 a2) 39) ∧ b3 < n ∧ H b4 = some (.cells (c26 a3) 26) ∧ b4 < n ∧ b1 ≠ b2 ∧ b1 ≠ b3 ∧ b2 ≠ b3 ∧ b1 ≠ b4 ∧ b2 ≠ b4 ∧ b3 ≠ b4) (by and_intros <;> first | assumption | simp [-splice, f4, f5, f6, f7, f16, b_b1, b_b2, b_b3, b_b4]) ?_
  clear f4 f5 f6 f7 f16 b_b1 l_b1 b_b2 l_b2 b_b3 l_b3 b_b4 l_b4 d_b1_b2 d_b1_b3 d_b2_b3 d_b1_b4 d_b2_b4 d_b3_b4
  rintro t H n ⟨f4, f5, f6, f7, f17, b_b1, l_b1, b_b2, l_b2, b_b3, l_b3, b_b4, l_b4, d_b1_b2, d_b1_b3, d_b2_b3, d_b1_b4, d_b2_b4, d_b3_b4⟩
  obtain ⟨K2, hK2, h⟩ := jnd h
  refine Stk.jo 4 (fun t H n => ∃ v8 : Bool, K2 v8 = some r ∧ t 4 = .own b1 0 ∧ t 5 = .own b2 0 ∧ t 6 = .own b3 0 ∧ t 7 = .own b4 0 ∧ t 21 = .sc (.bool v8) ∧ H b1 = some (.cells (c36 a0) 36) ∧ b1 < n ∧ H b2 = some (.cells (c33 a1) 33) ∧ b2 < n ∧ H b3 = some (.cells (c39 a2) 39) ∧ b3 < n ∧ H b4 = some (.cells (c26 a3) 26) ∧ b4 < n ∧ b1 ≠ b2 ∧ b1 ≠ b3 ∧ b2 ≠ b3 ∧ b1 ≠ b4 ∧ b2 ≠ b4 ∧ b3 ≠ b4) (fun J2 hJ2 => ?_) ?_
  · rcases Bool.eq_false_or_eq_true v6 with hb2 | hb2
    · rw [hb2] at f17
      replace h := cT hb2 h
      refine evY_sound (f := 5) ?_; simp [-splice, f4, f5, f6, f7, f17, b_b1, b_b2, b_b3, b_b4]
      exact Stk.ln 0 (by decide) (hJ2 _ _ _ ⟨true, h, by and_intros <;> first | assumption | simp [-splice, f4, f5, f6, f7, f17, b_b1, b_b2, b_b3, b_b4]⟩)
    · rw [hb2] at f17
      replace h := cF hb2 h
      obtain ⟨x9, hx9, h⟩ := bnd h
      refine evY_sound (f := 1) ?_; simp [-splice, f4, f5, f6, f7, f17, b_b1, b_b2, b_b3, b_b4, ld_39_0_39]
      refine Stk.cv (g := 9) (args := [.agg (c39 a2), .sc (.int .i64 3000)]) (args' := [.agg (c39 a2), .sc (.int .i64 3000)]) (v := .sc (.int .i64 x9)) [] (ok_R04_LightPat F _ _ _ hx9) (by simp [-splice, f4, f5, f6, f7, f17, b_b1, b_b2, b_b3, b_b4, ld_39_0_39]) rfl rfl (by simp [-splice, f4, f5, f6, f7, f17, b_b1, b_b2, b_b3, b_b4, ld_39_0_39]) (.cons (.free (fr39 _)) (.cons (.free (rfl)) (.nil))) (.inl ⟨rfl, rfl⟩) (fun t' ht' => ?_)
      subst ht'
      refine evY_sound (f := 3) ?_; simp [-splice, f4, f5, f6, f7, f17, b_b1, b_b2, b_b3, b_b4, ld_39_0_39]
      exact Stk.ln 0 (by decide) (hJ2 _ _ _ ⟨(decide (x9 < 0)), h, by and_intros <;> first | assumption | simp [-splice, f4, f5, f6, f7, f17, b_b1, b_b2, b_b3, b_b4, ld_39_0_39]⟩)
  clear h f4 f5 f6 f7 f17 b_b1 l_b1 b_b2 l_b2 b_b3 l_b3 b_b4 l_b4 d_b1_b2 d_b1_b3 d_b2_b3 d_b1_b4 d_b2_b4 d_b3_b4
  rintro t H n ⟨v8, h, f4, f5, f6, f7, f21, b_b1, l_b1, b_b2, l_b2, b_b3, l_b3, b_b4, l_b4, d_b1_b2, d_b1_b3, d_b2_b3, d_b1_b4, d_b2_b4, d_b3_b4⟩
  subst hK2
  refine evY_sound (f := 1) ?_; simp [-splice, f4, f5, f6, f7, f21, b_b1, b_b2, b_b3, b_b4]
  refine Stk.gen (fun t H n => t 4 = .own b1 0 ∧ t 5 = .own b2 0 ∧ t 6 = .own b3 0 ∧ t 7 = .own b4 0 ∧ t 22 = .sc (.bool v8) ∧ H b1 = some (.cells (c36 a0) 36) ∧ b1 < n ∧ H b2 = some (.cells (c33 a1) 33) ∧ b2 < n ∧ H b3 = some (.cells (c39 a2) 39) ∧ b3 < n ∧ H b4 = some (.cells (c26 a3) 26) ∧ b4 < n ∧ b1 ≠ b2 ∧ b1 ≠ b3 ∧ b2 ≠ b3 ∧ b1 ≠ b4 ∧ b2 ≠ b4 ∧ b3 ≠ b4) (by and_intros <;> first | assumption | simp [-splice, f4, f5, f6, f7, f21, b_b1, b_b2, b_b3, b_b4]) ?_
  clear f4 f5 f6 f7 f21 b_b1 l_b1 b_b2 l_b2 b_b3 l_b3 b_b4 l_b4 d_b1_b2 d_b1_b3 d_b2_b3 d_b1_b4 d_b2_b4 d_b3_b4
  rintro t H n ⟨f4, f5, f6, f7, f22, b_b1, l_b1, b_b2, l_b2, b_b3, l_b3, b_b4, l_b4, d_b1_b2, d_b1_b3, d_b2_b3, d_b1_b4, d_b2_b4, d_b3_b4⟩
  obtain ⟨K3, hK3, h⟩ := jnd h
  refine Stk.jo 4 (fun t H n => ∃ v10 : Bool, K3 v10 = some r ∧ t 4 = .own b1 0 ∧ t 5 = .own b2 0 ∧ t 6 = .own b3 0 ∧ t 7 = .own b4 0 ∧ t 26 = .sc (.bool v10) ∧ H b1 = some (.cells (c36 a0) 36) ∧ b1 < n ∧ H b2 = some (.cells (c33 a1) 33) ∧ b2 < n ∧ H b3 = some (.cells (c39 a2) 39) ∧ b3 < n ∧ H b4 = some (.cells (c26 a3) 26) ∧ b4 < n ∧ b1 ≠ b2 ∧ b1 ≠ b3 ∧ b2 ≠ b3 ∧ b1 ≠ b4 ∧ b2 ≠ b4 ∧ b3 ≠ b4) (fun J3 hJ3 => ?_) ?_
  · rcases Bool.eq_false_or_eq_true v8 with hb3 | hb3
    · rw [hb3] at f22
      replace h := cT hb3 h
      refine evY_sound (f := 5) ?_; simp [-splice, f4, f5, f6, f7, f22, b_b1, b_b2, b_b3, b_b4]
      exact Stk.ln 0 (by decide) (hJ3 _ _ _ ⟨true, h, by and_intros <;> first | assumption | simp [-splice, f4, f5, f6, f7, f22, b_b1, b_b2, b_b3, b_b4]⟩)
    · rw [hb3] at f22
      replace h := cF hb3 h
      obtain ⟨x11, hx11, h⟩ := bnd h
      refine evY_sound (f := 1) ?_; simp [-splice, f4, f5, f6, f7, f22, b_b1, b_b2, b_b3, b_b4, ld_26_0_26]
      refine Stk.cv (g := 10) (args := [.agg (c26 a3), .sc (.int .i64 3000)]) (args' := [.agg (c26 a3), .sc (.int .i64 3000)]) (v := .sc (.int .i64 x11)) [] (ok_R04_LightType F _ _ _ hx11) (by simp [-splice, f4, f5, f6, f7, f22, b_b1, b_b2, b_b3, b_b4, ld_26_0_26]) rfl rfl (by simp [-splice, f4, f5, f6, f7, f22, b_b1, b_b2, b_b3, b_b4, ld_26_0_26]) (.cons (.free (fr26 _)) (.cons (.free (rfl)) (.nil))) (.inl ⟨rfl, rfl⟩) (fun t' ht' => ?_)
      subst ht'
      refine evY_sound (f := 3) ?_; simp [-splice, f4, f5, f6, f7, f22, b_b1, b_b2, b_b3, b_b4, ld_26_0_26]
      exact Stk.ln 0 (by decide) (hJ3 _ _ _ ⟨(decide (x11 < 0)), h, by and_intros <;> first | assumption | simp [-splice, f4, f5, f6, f7, f22, b_b1, b_b2, b_b3, b_b4, ld_26_0_26]⟩)
  clear h f4 f5 f6 f7 f22 b_b1 l_b1 b_b2 l_b2 b_b3 l_b3 b_b4 l_b4 d_b1_b2 d_b1_b3 d_b2_b3 d_b1_b4 d_b2_b4 d_b3_b4
  rintro t H n ⟨v10, h, f4, f5, f6, f7, f26, b_b1, l_b1, b_b2, l_b2, b_b3, l_b3, b_b4, l_b4, d_b1_b2, d_b1_b3, d_b2_b3, d_b1_b4, d_b2_b4, d_b3_b4⟩
  subst hK3
  refine evY_sound (f := 1) ?_; simp [-splice, f4, f5, f6, f7, f26, b_b1, b_b2, b_b3, b_b4]
  refine Stk.cond v10 (by simp [-splice, f4, f5, f6, f7, f26, b_b1, b_b2, b_b3, b_b4]) (fun hb12 => ?_) (fun hb12 => ?_)
  ·have h := cT hb12 h
   obtain ⟨x13, hx13, h⟩ := bnd h
   refine evY_sound (f := 2) ?_; simp [-splice, f4, f5, f6, f7, f26, b_b1, b_b2, b_b3, b_b4]
   refine Stk.cv (g := 11) (args := []) (args' := []) (v := .sc (.bool x13)) [] (ok_L04_awake F  _ hx13) (by simp [-splice, f4, f5, f6, f7, f26, b_b1, b_b2, b_b3, b_b4]) rfl rfl (by simp [-splice, f4, f5, f6, f7, f26, b_b1, b_b2, b_b3, b_b4]) (.nil) (.inl ⟨rfl, rfl⟩) (fun t' ht' => ?_)
   subst ht'
   refine evY_sound (f := 3) ?_; simp [-splice, f4, f5, f6, f7, f26, b_b1, b_b2, b_b3, b_b4]
   have hq := Option.some.inj h; subst hq
   exact (hr _ _ _ (.sc (.bool x13)) ([]) (by simp [-splice, f4, f5, f6, f7, f26, b_b1, b_b2, b_b3, b_b4]) (.inr (.inr (.free (rfl))))).1
  ·have h := cF hb12 h
   refine evY_sound (f := 2) ?_; simp [-splice, f4, f5, f6, f7, f26, b_b1, b_b2, b_b3, b_b4]
   refine Stk.gen (fun t H n => t 4 = .own b1 0 ∧ t 5 = .own b2 0 ∧ t 6 = .own b3 0 ∧ t 7 = .own b4 0 ∧ t 26 = .sc (.bool v10) ∧ H b1 = some (.cells (c36 a0) 36) ∧ b1 < n ∧ H b2 = some (.cells (c33 a1) 33) ∧ b2 < n ∧ H b3 = some (.cells (c39 a2) 39) ∧ b3 < n ∧ H b4 = some (.cells (c26 a3) 26) ∧ b4 < n ∧ b1 ≠ b2 ∧ b1 ≠ b3 ∧ b2 ≠ b3 ∧ b1 ≠ b4 ∧ b2 ≠ b4 ∧ b3 ≠ b4) (by and_intros <;> first | assumption | simp [-splice, f4, f5, f6, f7, f26, b_b1, b_b2, b_b3, b_b4]) ?_
   clear f4 f5 f6 f7 f26 b_b1 l_b1 b_b2 l_b2 b_b3 l_b3 b_b4 l_b4 d_b1_b2 d_b1_b3 d_b2_b3 d_b1_b4 d_b2_b4 d_b3_b4
   rintro t H n ⟨f4, f5, f6, f7, f26, b_b1, l_b1, b_b2, l_b2, b_b3, l_b3, b_b4, l_b4, d_b1_b2, d_b1_b3, d_b2_b3, d_b1_b4, d_b2_b4, d_b3_b4⟩
   obtain ⟨n0, hn0⟩ : ∃ m, m = n := ⟨n, rfl⟩
   have ln0 : n0 ≤ n := Nat.le_of_eq hn0
   refine Stk.rgD [.rd [b1], .rd [], .rd [b1], .rd [], .rd [], .rd [], .rd [b2], .rd [], .rd [b2], .rd [], .rd [], .rd [], .rd [], .rd [b3], .rd [], .rd [b3], .rd [], .rd [], .rd [], .rd [], .rd [b4], .rd [], .rd [b4], .rd [], .rd [], .rd [], .rd [], .rd [], .rd [], .rd []] none (by kernel_rfl) (by rfl) rfl (by simp [below, hn0, l_b1, hn0, l_b2, hn0, l_b3, hn0, l_b4]) rfl ?_
   obtain ⟨x14, hx14, h⟩ := bnd h
   refine evY_sound (f := 1) ?_; simp [-splice, f4, f5, f6, f7, f26, b_b1, b_b2, b_b3, b_b4, ld_36_0_36]
   refine Stk.cvD (g := 12) (args := [.agg (c36 a0)]) (args' := [.agg (c36 a0)]) (v := .sc (.bool x14)) [] (ok_ast_Fit F _ _ hx14) rfl (by simp) rfl (by simp [-splice, f4, f5, f6, f7, f26, b_b1, b_b2, b_b3, b_b4, ld_36_0_36]) rfl rfl (by simp [-splice, f4, f5, f6, f7, f26, b_b1, b_b2, b_b3, b_b4, ld_36_0_36]) (.cons (.free (fr36 _)) (.nil)) (.inl ⟨rfl, rfl⟩) (fun t' ht' => ?_)
   subst ht'
   obtain ⟨x15, hx15, h⟩ := bnd h
   refine evY_sound (f := 1) ?_; simp [-splice, f4, f5, f6, f7, f26, b_b1, b_b2, b_b3, b_b4, ld_36_0_36]
   refine Stk.cvD (g := 13) (args := [.agg (c36 a0)]) (args' := [.agg (c36 a0)]) (v := .sc (.bool x15)) [] (ok_R04_Fit F _ _ hx15) rfl (by simp) rfl (by simp [-splice, f4, f5, f6, f7, f26, b_b1, b_b2, b_b3, b_b4, ld_36_0_36]) rfl rfl (by simp [-splice, f4, f5, f6, f7, f26, b_b1, b_b2, b_b3, b_b4, ld_36_0_36]) (.cons (.free (fr36 _)) (.nil)) (.inl ⟨rfl, rfl⟩) (fun t' ht' => ?_)
   subst ht'
   refine evY_sound (f := 2) ?_; simp [-splice, f4, f5, f6, f7, f26, b_b1, b_b2, b_b3, b_b4, ld_36_0_36, eqM4]
   refine Stk.gen (fun t H n => t 5 = .own b2 0 ∧ t 6 = .own b3 0 ∧ t 7 = .own b4 0 ∧ t 33 = .sc (.bool (x14 == x15)) ∧ H b2 = some (.cells (c33 a1) 33) ∧ b2 < n ∧ H b3 = some (.cells (c39 a2) 39) ∧ b3 < n ∧ H b4 = some (.cells (c26 a3) 26) ∧ b4 < n ∧ b2 ≠ b3 ∧ b2 ≠ b4 ∧ b3 ≠ b4 ∧ n0 ≤ n) (by and_intros <;> first | assumption | simp [-splice, f4, f5, f6, f7, f26, b_b1, b_b2, b_b3, b_b4, ld_36_0_36, eqM4]) ?_
   clear f4 f5 f6 f7 f26 b_b1 l_b1 b_b2 l_b2 b_b3 l_b3 b_b4 l_b4 d_b1_b2 d_b1_b3 d_b2_b3 d_b1_b4 d_b2_b4 d_b3_b4 ln0
   rintro t H n ⟨f5, f6, f7, f33, b_b2, l_b2, b_b3, l_b3, b_b4, l_b4, d_b2_b3, d_b2_b4, d_b3_b4, ln0⟩
   obtain ⟨K4, hK4, h⟩ := jnd h
   refine Stk.jd 6 (fun t H n => ∃ v16 : Bool, K4 v16 = some r ∧ t 6 = .own b3 0 ∧ t 7 = .own b4 0 ∧ t 39 = .sc (.bool v16) ∧ H b3 = some (.cells (c39 a2) 39) ∧ b3 < n ∧ H b4 = some (.cells (c26 a3) 26) ∧ b4 < n ∧ b3 ≠ b4) (fun J4 hJ4 => ?_) ?_
   · rcases Bool.eq_false_or_eq_true (x14 == x15) with hb4 | hb4
     · rw [hb4] at f33
       replace h := cT hb4 h
       obtain ⟨x17, hx17, h⟩ := bnd h
       refine evY_sound (f := 1) ?_; simp [-splice, f5, f6, f7, f33, b_b2, b_b3, b_b4, ld_33_0_33]
       refine Stk.cvD (g := 14) (args := [.agg (c33 a1)]) (args' := [.agg (c33 a1)]) (v := .sc (.bool x17)) [] (ok_ast_FitExpr F _ _ hx17) rfl (by simp) rfl (by simp [-splice, f5, f6, f7, f33, b_b2, b_b3, b_b4, ld_33_0_33]) rfl rfl (by simp [-splice, f5, f6, f7, f33, b_b2, b_b3, b_b4, ld_33_0_33]) (.cons (.free (fr33 _)) (.nil)) (.inl ⟨rfl, rfl⟩) (fun t' ht' => ?_)
       subst ht'
       obtain ⟨x18, hx18, h⟩ := bnd h
       refine evY_sound (f := 1) ?_; simp [-splice, f5, f6, f7, f33, b_b2, b_b3, b_b4, ld_33_0_33]
       refine Stk.cvD (g := 15) (args := [.agg (c33 a1)]) (args' := [.agg (c33 a1)]) (v := .sc (.bool x18)) [] (ok_R04_FitExpr F _ _ hx18) rfl (by simp) rfl (by simp [-splice, f5, f6, f7, f33, b_b2, b_b3, b_b4, ld_33_0_33]) rfl rfl (by simp [-splice, f5, f6, f7, f33, b_b2, b_b3, b_b4, ld_33_0_33]) (.cons (.free (fr33 _)) (.nil)) (.inl ⟨rfl, rfl⟩) (fun t' ht' => ?_)
       subst ht'
       refine evY_sound (f := 3) ?_; simp [-splice, f5, f6, f7, f33, b_b2, b_b3, b_b4, ld_33_0_33, eqM4]
       exact Stk.ln 0 (by decide) (hJ4 _ _ _ ⟨(x17 == x18), h, by and_intros <;> first | assumption | simp [-splice, f5, f6, f7, f33, b_b2, b_b3, b_b4, ld_33_0_33, eqM4]⟩)
     · rw [hb4] at f33
       replace h := cF hb4 h
       refine evY_sound (f := 7) ?_; simp [-splice, f5, f6, f7, f33, b_b2, b_b3, b_b4]
       exact Stk.ln 0 (by decide) (hJ4 _ _ _ ⟨false, h, by and_intros <;> first | assumption | simp [-splice, f5, f6, f7, f33, b_b2, b_b3, b_b4]⟩)
   clear h f5 f6 f7 f33 b_b2 l_b2 b_b3 l_b3 b_b4 l_b4 d_b2_b3 d_b2_b4 d_b3_b4 ln0
   rintro t H n ⟨v16, h, f6, f7, f39, b_b3, l_b3, b_b4, l_b4, d_b3_b4⟩
   subst hK4
   refine evY_sound (f := 1) ?_; simp [-splice, f6, f7, f39, b_b3, b_b4]
   refine Stk.gen (fun t H n => t 6 = .own b3 0 ∧ t 7 = .own b4 0 ∧ t 40 = .sc (.bool v16) ∧ H b3 = some (.cells (c39 a2) 39) ∧ b3 < n ∧ H b4 = some (.cells (c26 a3) 26) ∧ b4 < n ∧ b3 ≠ b4) (by and_intros <;> first | assumption | simp [-splice, f6, f7, f39, b_b3, b_b4]) ?_
   clear f6 f7 f39 b_b3 l_b3 b_b4 l_b4 d_b3_b4
   rintro t H n ⟨f6, f7, f40, b_b3, l_b3, b_b4, l_b4, d_b3_b4⟩
   obtain ⟨K5, hK5, h⟩ := jnd h
   refine Stk.jd 6 (fun t H n => ∃ v19 : Bool, K5 v19 = some r ∧ t 7 = .own b4 0 ∧ t 46 = .sc (.bool v19) ∧ H b4 = some (.cells (c26 a3) 26) ∧ b4 < n) (fun J5 hJ5 => ?_) ?_
   · rcases Bool.eq_false_or_eq_true v16 with hb5 | hb5
     · rw [hb5] at f40
       replace h := cT hb5 h
       obtain ⟨x20, hx20, h⟩ := bnd h
       refine evY_sound (f := 1) ?_; simp [-splice, f6, f7, f40, b_b3, b_b4, ld_39_0_39]
       refine Stk.cvD (g := 16) (args := [.agg (c39 a2)]) (args' := [.agg (c39 a2)]) (v := .sc (.bool x20)) [] (ok_ast_FitPat F _ _ hx20) rfl (by simp) rfl (by simp [-splice, f6, f7, f40, b_b3, b_b4, ld_39_0_39]) rfl rfl (by simp [-splice, f6, f7, f40, b_b3, b_b4, ld_39_0_39]) (.cons (.free (fr39 _)) (.nil)) (.inl ⟨rfl, rfl⟩) (fun t' ht' => ?_)
       subst ht'
       obtain ⟨x21, hx21, h⟩ := bnd h
       refine evY_sound (f := 1) ?_; simp [-splice, f6, f7, f40, b_b3, b_b4, ld_39_0_39]
       refine Stk.cvD (g := 17) (args := [.agg (c39 a2)]) (args' := [.agg (c39 a2)]) (v := .sc (.bool x21)) [] (ok_R04_FitPat F _ _ hx21) rfl (by simp) rfl (by simp [-splice, f6, f7, f40, b_b3, b_b4, ld_39_0_39]) rfl rfl (by simp [-splice, f6, f7, f40, b_b3, b_b4, ld_39_0_39]) (.cons (.free (fr39 _)) (.nil)) (.inl ⟨rfl, rfl⟩) (fun t' ht' => ?_)
       subst ht'
       refine evY_sound (f := 3) ?_; simp [-splice, f6, f7, f40, b_b3, b_b4, ld_39_0_39, eqM4]
       exact Stk.ln 0 (by decide) (hJ5 _ _ _ ⟨(x20 == x21), h, by and_intros <;> first | assumption | simp [-splice, f6, f7, f40, b_b3, b_b4, ld_39_0_39, eqM4]⟩)
     · rw [hb5] at f40
       replace h := cF hb5 h
       refine evY_sound (f := 7) ?_; simp [-splice, f6, f7, f40, b_b3, b_b4]
       exact Stk.ln 0 (by decide) (hJ5 _ _ _ ⟨false, h, by and_intros <;> first | assumption | simp [-splice, f6, f7, f40, b_b3, b_b4]⟩)
   clear h f6 f7 f40 b_b3 l_b3 b_b4 l_b4 d_b3_b4
   rintro t H n ⟨v19, h, f7, f46, b_b4, l_b4⟩
   subst hK5
   refine evY_sound (f := 1) ?_; simp [-splice, f7, f46, b_b4]
   refine Stk.gen (fun t H n => t 7 = .own b4 0 ∧ t 47 = .sc (.bool v19) ∧ H b4 = some (.cells (c26 a3) 26) ∧ b4 < n) (by and_intros <;> first | assumption | simp [-splice, f7, f46, b_b4]) ?_
   clear f7 f46 b_b4 l_b4
   rintro t H n ⟨f7, f47, b_b4, l_b4⟩
   obtain ⟨K6, hK6, h⟩ := jnd h
   refine Stk.jd 6 (fun t H n => ∃ v22 : Bool, K6 v22 = some r ∧ t 53 = .sc (.bool v22)) (fun J6 hJ6 => ?_) ?_
   · rcases Bool.eq_false_or_eq_true v19 with hb6 | hb6
     · rw [hb6] at f47
       replace h := cT hb6 h
       obtain ⟨x23, hx23, h⟩ := bnd h
       refine evY_sound (f := 1) ?_; simp [-splice, f7, f47, b_b4, ld_26_0_26]
       refine Stk.cvD (g := 18) (args := [.agg (c26 a3)]) (args' := [.agg (c26 a3)]) (v := .sc (.bool x23)) [] (ok_ast_FitType F _ _ hx23) rfl (by simp) rfl (by simp [-splice, f7, f47, b_b4, ld_26_0_26]) rfl rfl (by simp [-splice, f7, f47, b_b4, ld_26_0_26]) (.cons (.free (fr26 _)) (.nil)) (.inl ⟨rfl, rfl⟩) (fun t' ht' => ?_)
       subst ht'
       obtain ⟨x24, hx24, h⟩ := bnd h
       refine evY_sound (f := 1) ?_; simp [-splice, f7, f47, b_b4, ld_26_0_26]
       refine Stk.cvD (g := 19) (args := [.agg (c26 a3)]) (args' := [.agg (c26 a3)]) (v := .sc (.bool x24)) [] (ok_R04_FitType F _ _ hx24) rfl (by simp) rfl (by simp [-splice, f7, f47, b_b4, ld_26_0_26]) rfl rfl (by simp [-splice, f7, f47, b_b4, ld_26_0_26]) (.cons (.free (fr26 _)) (.nil)) (.inl ⟨rfl, rfl⟩) (fun t' ht' => ?_)
       subst ht'
       refine evY_sound (f := 3) ?_; simp [-splice, f7, f47, b_b4, ld_26_0_26, eqM4]
       exact Stk.ln 0 (by decide) (hJ6 _ _ _ ⟨(x23 == x24), h, by simp [-splice, f7, f47, b_b4, ld_26_0_26, eqM4]⟩)
     · rw [hb6] at f47
       replace h := cF hb6 h
       refine evY_sound (f := 7) ?_; simp [-splice, f7, f47, b_b4]
       exact Stk.ln 0 (by decide) (hJ6 _ _ _ ⟨false, h, by simp [-splice, f7, f47, b_b4]⟩)
   clear h f7 f47 b_b4 l_b4
   rintro t H n ⟨v22, h, f53⟩
   subst hK6
   refine evY_sound (f := 1) ?_; simp [-splice, f53]
   refine Stk.gen (fun t H n => t 54 = .sc (.bool v22)) (by simp [-splice, f53]) ?_
   clear f53
   rintro t H n f54
   obtain ⟨K7, hK7, h⟩ := jnd h
   refine Stk.jd 2 (fun t H n => ∃ v25 : Bool, K7 v25 = some r ∧ t 56 = .sc (.bool v25)) (fun J7 hJ7 => ?_) ?_
   · rcases Bool.eq_false_or_eq_true v22 with hb7 | hb7
     · rw [hb7] at f54
       replace h := cT hb7 h
       obtain ⟨x26, hx26, h⟩ := bnd h
       refine Stk.cvD (g := 11) (args := []) (args' := []) (v := .sc (.bool x26)) [] (ok_L04_awake F  _ hx26) rfl (by simp) rfl (by simp [-splice, f54]) rfl rfl (by simp [-splice, f54]) (.nil) (.inl ⟨rfl, rfl⟩) (fun t' ht' => ?_)
       subst ht'
       refine evY_sound (f := 2) ?_; simp [-splice, f54]
       exact Stk.ln 0 (by decide) (hJ7 _ _ _ ⟨x26, h, by simp [-splice, f54]⟩)
     · rw [hb7] at f54
       replace h := cF hb7 h
       refine evY_sound (f := 3) ?_; simp [-splice, f54]
       exact Stk.ln 0 (by decide) (hJ7 _ _ _ ⟨false, h, by simp [-splice, f54]⟩)
   clear h f54
   rintro t H n ⟨v25, h, f56⟩
   subst hK7
   refine evY_sound (f := 3) ?_; simp [-splice, f56]
   have hq := Option.some.inj h; subst hq
   exact (hr _ _ _ (.sc (.bool v25)) ([]) (by simp [-splice, f56]) (.inr (.inr (.free (rfl))))).1
end Go.Proofs.YtappiofmkoelnaaGreatDoor.M
end
section
namespace Go.Proofs.YtappiofmkoelnaaGreatDoor
open Go.Proofs.YtappiofmkoelnaaGreatDoorW.Ah
set_option linter.unusedVariables false
set_option linter.unusedSimpArgs false
theorem typ_int {T : Tab} {t : Nat} {i : TI} {k : IntKind} {cs : List AV} (h : Typ T t cs) (ht : T t = some i) (hk : i.k = .int k) : ∃ n, cs = [.sc (.int k n)] ∧ (Lit.int k n).wf = true := by
  cases h with
  | int n h1 h2 h3 => rw [ht] at h1; cases h1; rw [hk] at h2; cases h2; exact ⟨n, rfl, h3⟩
  | bool b h1 h2 => rw [ht] at h1; cases h1; rw [hk] at h2; cases h2
  | str s h1 h2 => rw [ht] at h1; cases h1; rw [hk] at h2; cases h2
  | slice xs h1 h2 => rw [ht] at h1; cases h1; rw [hk] at h2; cases h2
  | struct ps h1 h2 => rw [ht] at h1; cases h1; rw [hk] at h2; cases h2
  | arr xs h1 h2 => rw [ht] at h1; cases h1; rw [hk] at h2; cases h2
  | other _ hs => have := hs i ht; rw [hk] at this; exact this.elim
end Go.Proofs.YtappiofmkoelnaaGreatDoor
end
section
namespace Go.Proofs.YtappiofmkoelnaaGreatDoor
open Go.Proofs.YtappiofmkoelnaaGreatDoorW.Ah
set_option linter.unusedVariables false
set_option linter.unusedSimpArgs false
theorem typ_struct {T : Tab} {t : Nat} {i : TI} {fs : List (Nat × Nat)} {cs : List AV} (h : Typ T t cs) (ht : T t = some i) (hk : i.k = .struct fs) (hs : ¬ shut T t) :
    ∃ ps : List (List AV), cs = ps.flatten ∧ ps.length = fs.length ∧ ∀ (k : Nat) f p, fs[k]? = some f → ps[k]? = some p → Typ T f.2 p := by
  cases h with
  | struct ps h1 h2 h3 h4 => rw [ht] at h1; cases h1; rw [hk] at h2; cases h2; exact ⟨ps, rfl, h3, h4⟩
  | bool b h1 h2 => rw [ht] at h1; cases h1; rw [hk] at h2; cases h2
  | int n h1 h2 => rw [ht] at h1; cases h1; rw [hk] at h2; cases h2
  | str s h1 h2 => rw [ht] at h1; cases h1; rw [hk] at h2; cases h2
  | slice xs h1 h2 => rw [ht] at h1; cases h1; rw [hk] at h2; cases h2
  | arr xs h1 h2 => rw [ht] at h1; cases h1; rw [hk] at h2; cases h2
  | other _ h1 => exact absurd h1 hs
end Go.Proofs.YtappiofmkoelnaaGreatDoor
end
