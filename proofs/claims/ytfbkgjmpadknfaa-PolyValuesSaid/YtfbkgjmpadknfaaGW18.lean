/-
  The functions come to them.
-/
import Derived.Test.YtfbkgjmpadknfaaGM
import Derived.Test.YtfbkgjmpadknfaaGW0
import Derived.Test.YtfbkgjmpadknfaaGW1
import Derived.Test.YtfbkgjmpadknfaaGW2
import Derived.Test.YtfbkgjmpadknfaaGW3
import Derived.Test.YtfbkgjmpadknfaaGW4
import Derived.Test.YtfbkgjmpadknfaaGW6
import Derived.Test.YtfbkgjmpadknfaaGW14
import Derived.Test.YtfbkgjmpadknfaaGW15
import Derived.Test.YtfbkgjmpadknfaaGW17
namespace Go.Proofs.Ytfbkgjmpadknfaa.M
open Go.Proofs.YtfbkgjmpadknfaaW.Ah Go.Proofs.Ytfbkgjmpadknfaa
set_option linter.unusedVariables false
set_option linter.unusedSimpArgs false
set_option maxRecDepth 8000
attribute [local simp] T.t2 T.t3 T.t4 T.t23 T.t37 T.t39 T.t45 List.range List.range.loop
attribute [-simp] appendAV fillAV
theorem ok_L13_PolyValues (F : Nat) (a0 : (List api_Term)) (a1 : (List api_Term)) (a2 : (List Int)) (a3 : Int) (r : Bool) (h : L13_PolyValues F a0 a1 a2 a3 = some r) : RunF Try.prog T.T 9 [.ssl (encs c97 a0) a0.length false, .ssl (encs c97 a1) a1.length false, .ssl (encs c2 a2) a2.length false, .sc (.int .i64 a3)] (.sc (.bool r)) := by
  rw [L13_PolyValues] at h
  refine RunF.z Try.func9 rfl rfl rfl rfl rfl (fun C hr => ?_)
  refine Stk.gen (fun t H n => t 0 = .ssl (encs c97 a0) a0.length false ∧ t 1 = .ssl (encs c97 a1) a1.length false ∧ t 2 = .ssl (encs c2 a2) a2.length false ∧ t 3 = .sc (.int .i64 a3)) ⟨by simp, by simp, by simp, by simp⟩ ?_
  rintro t H n ⟨f0, f1, f2, f3⟩
  refine Stk.sq ?_
  refine Stk.rg ?_
  refine Stk.run 1 (fun t H n => t 0 = .ssl (encs c97 a0) a0.length false ∧ t 1 = .ssl (encs c97 a1) a1.length false ∧ t 2 = .ssl (encs c2 a2) a2.length false ∧ t 3 = .sc (.int .i64 a3)) (fun J hJ => ?_) ?_
  · simp [-splice, f0, f1, f2, f3]
    exact hJ _ _ _ ⟨by simp [f0], by simp [f1], by simp [f2], by simp [f3]⟩
  clear f0 f1 f2 f3
  rintro t H n ⟨f0, f1, f2, f3⟩
  refine Stk.on ?_
  refine Stk.sq ?_
  refine Stk.sq ?_
  refine Stk.rg ?_
  refine Stk.run 2 (fun t H n => t 0 = .ssl (encs c97 a0) a0.length false ∧ t 1 = .ssl (encs c97 a1) a1.length false ∧ t 2 = .ssl (encs c2 a2) a2.length false ∧ t 3 = .sc (.int .i64 a3) ∧ t 36 = .ssl (encs c97 a0) a0.length false ∧ t 37 = .ssl (encs c97 a1) a1.length false) (fun J hJ => ?_) ?_
  · simp [-splice, f0, f1, f2, f3]
    exact hJ _ _ _ ⟨by simp [f0], by simp [f1], by simp [f2], by simp [f3], by simp [-splice, f0, f1, f2, f3], by simp [-splice, f0, f1, f2, f3]⟩
  clear f0 f1 f2 f3
  rintro t H n ⟨f0, f1, f2, f3, f36, f37⟩
  refine Stk.om (mop_buildN (c := c37) (z := 1) T.t39 rfl T.t37 rfl (by decide) rfl (by decide) [a0, a1] rfl (.cons f36 rfl rfl rfl rfl (by simp [length_encs]) (splice_next (c := c37) [] _ a0 rfl (by simp)) (.cons f37 rfl rfl rfl rfl (by simp [length_encs]) (splice_next (c := c37) [a0] _ a1 rfl (by simp)) (.nil)))) (by simp [f0, f1, f2, f3, f36, f37]) rfl (fun t' ht' => ?_)
  refine Stk.gen (fun t H n => ∃ b1, t 0 = .ssl (encs c97 a0) a0.length false ∧ t 1 = .ssl (encs c97 a1) a1.length false ∧ t 2 = .ssl (encs c2 a2) a2.length false ∧ t 3 = .sc (.int .i64 a3) ∧ t 38 = .osl b1 0 ([a0, a1] : List (List api_Term)).length (some ([a0, a1] : List (List api_Term)).length) ∧ H b1 = some (.cells (encs c37 ([a0, a1] : List (List api_Term))) 37) ∧ b1 < n) ⟨n, by simp [ht', f0], by simp [ht', f1], by simp [ht', f2], by simp [ht', f3], by simp [ht'], upd_same _ _ _, Nat.lt_succ_self _⟩ ?_
  clear f0 f1 f2 f3 f36 f37 ht' t'
  rintro t H n ⟨b1, f0, f1, f2, f3, f38, b_b1, l_b1⟩
  obtain ⟨x2, hx2, h⟩ := bnd h
  refine Stk.cv (g := 18) (args := [.osl b1 0 ([a0, a1] : List (List api_Term)).length (some ([a0, a1] : List (List api_Term)).length)]) (args' := [.ssl (encs c37 ([a0, a1] : List (List api_Term))) ([a0, a1] : List (List api_Term)).length false]) (v := .sc (.bool x2)) [b1] (ok_L13_few F _ _ hx2) (by simp [f0, f1, f2, f3, f38]) rfl rfl (by simp [f0, f1, f2, f3, f38]) (.cons (view_row fr37 b_b1 (by simp) _) (.nil)) (.inr rfl) (fun t' ht' => ?_)
  refine Stk.gen (fun t H n => t 0 = .ssl (encs c97 a0) a0.length false ∧ t 1 = .ssl (encs c97 a1) a1.length false ∧ t 2 = .ssl (encs c2 a2) a2.length false ∧ t 3 = .sc (.int .i64 a3) ∧ t 39 = .sc (.bool x2)) ⟨by simp [ht', f0], by simp [ht', f1], by simp [ht', f2], by simp [ht', f3], by simp [ht']⟩ ?_
  clear f0 f1 f2 f3 f38 b_b1 l_b1 ht' t'
  rintro t H n ⟨f0, f1, f2, f3, f39⟩
  refine Stk.run 2 (fun t H n => t 0 = .ssl (encs c97 a0) a0.length false ∧ t 1 = .ssl (encs c97 a1) a1.length false ∧ t 2 = .ssl (encs c2 a2) a2.length false ∧ t 3 = .sc (.int .i64 a3) ∧ t 41 = .sc (.bool (!x2))) (fun J hJ => ?_) ?_
  · simp [-splice, f0, f1, f2, f3, f39]
    exact hJ _ _ _ ⟨by simp [f0], by simp [f1], by simp [f2], by simp [f3], by simp [-splice, f0, f1, f2, f3, f39]⟩
  clear f0 f1 f2 f3 f39
  rintro t H n ⟨f0, f1, f2, f3, f41⟩
  refine Stk.jo 4 (fun t H n => t 0 = .ssl (encs c97 a0) a0.length false ∧ t 1 = .ssl (encs c97 a1) a1.length false ∧ t 2 = .ssl (encs c2 a2) a2.length false ∧ t 3 = .sc (.int .i64 a3) ∧ t 45 = .sc (.bool ((!x2) || (decide (20 < (a2.length : Int)))))) (fun J1 hJ1 => ?_) ?_
  · rcases Bool.eq_false_or_eq_true (!x2) with hb1 | hb1
    · rw [hb1] at f41
      refine Stk.run 4 (fun t H n => t 0 = .ssl (encs c97 a0) a0.length false ∧ t 1 = .ssl (encs c97 a1) a1.length false ∧ t 2 = .ssl (encs c2 a2) a2.length false ∧ t 3 = .sc (.int .i64 a3) ∧ t 45 = .sc (.bool true)) (fun J hJ => ?_) ?_
      · simp [-splice, f0, f1, f2, f3, f41]
        exact hJ _ _ _ ⟨by simp [f0], by simp [f1], by simp [f2], by simp [f3], by simp [-splice, f0, f1, f2, f3, f41]⟩
      clear f0 f1 f2 f3 f41
      rintro t H n ⟨f0, f1, f2, f3, f45⟩
      refine Stk.on ?_
      exact Stk.ln 0 (by decide) (hJ1 _ _ _ ⟨f0, f1, f2, f3, f45.trans (congrArg (fun q => AV.sc (.bool q)) (by rw [hb1]; rfl))⟩)
    · rw [hb1] at f41
      refine Stk.run 4 (fun t H n => t 0 = .ssl (encs c97 a0) a0.length false ∧ t 1 = .ssl (encs c97 a1) a1.length false ∧ t 2 = .ssl (encs c2 a2) a2.length false ∧ t 3 = .sc (.int .i64 a3) ∧ t 45 = .sc (.bool (decide (20 < (a2.length : Int))))) (fun J hJ => ?_) ?_
      · simp [-splice, f0, f1, f2, f3, f41]
        exact hJ _ _ _ ⟨by simp [f0], by simp [f1], by simp [f2], by simp [f3], by simp [-splice, f0, f1, f2, f3, f41]⟩
      clear f0 f1 f2 f3 f41
      rintro t H n ⟨f0, f1, f2, f3, f45⟩
      refine Stk.on ?_
      exact Stk.ln 0 (by decide) (hJ1 _ _ _ ⟨f0, f1, f2, f3, f45.trans (congrArg (fun q => AV.sc (.bool q)) (by rw [hb1]; rfl))⟩)
  clear f0 f1 f2 f3 f41
  rintro t H n ⟨f0, f1, f2, f3, f45⟩
  refine Stk.on ?_
  refine Stk.cond ((!x2) || (decide (20 < (a2.length : Int)))) (by exact f45) (fun hb3 => ?_) (fun hb3 => ?_)
  · have h := cT hb3 h
    refine Stk.sq ?_
    refine Stk.rg ?_
    obtain ⟨x4, hx4, h⟩ := bnd h
    refine Stk.cv (g := 19) (args := []) (args' := []) (v := .sc (.bool x4)) [] (ok_L13_awake F  _ hx4) (by simp [f0, f1, f2, f3, f45]) rfl rfl (by simp [f0, f1, f2, f3, f45]) (.nil) (.inl ⟨rfl, rfl⟩) (fun t' ht' => ?_)
    refine Stk.gen (fun t H n => t 46 = .sc (.bool x4)) (by simp [ht']) ?_
    clear f0 f1 f2 f3 f45 ht' t'
    rintro t H n f46
    refine Stk.run 1 (fun t H n => t 8 = .sc (.bool x4)) (fun J hJ => ?_) ?_
    · simp [-splice, f46]
      exact hJ _ _ _ (by simp [-splice, f46])
    clear f46
    rintro t H n f8
    refine Stk.on ?_
    refine Stk.rt ?_
    have hq := Option.some.inj h; subst hq
    exact (hr _ _ _ (.sc (.bool x4)) ([]) (by simp [f8]) (.inr (.inr (.free (rfl))))).1
  · have h := cF hb3 h
    refine Stk.sk ?_
    refine Stk.sq ?_
    refine Stk.rg ?_
    refine Stk.run 2 (fun t H n => t 0 = .ssl (encs c97 a0) a0.length false ∧ t 1 = .ssl (encs c97 a1) a1.length false ∧ t 2 = .ssl (encs c2 a2) a2.length false ∧ t 3 = .sc (.int .i64 a3) ∧ t 48 = .ssl (encs c97 a0) a0.length false ∧ t 49 = .ssl (encs c2 a2) a2.length false) (fun J hJ => ?_) ?_
    · simp [-splice, f0, f1, f2, f3, f45]
      exact hJ _ _ _ ⟨by simp [f0], by simp [f1], by simp [f2], by simp [f3], by simp [-splice, f0, f1, f2, f3, f45], by simp [-splice, f0, f1, f2, f3, f45]⟩
    clear f0 f1 f2 f3 f45
    rintro t H n ⟨f0, f1, f2, f3, f48, f49⟩
    obtain ⟨x5, hx5, h⟩ := bnd h
    refine Stk.cv (g := 25) (args := [.ssl (encs c97 a0) a0.length false, .ssl (encs c2 a2) a2.length false]) (args' := [.ssl (encs c97 a0) a0.length false, .ssl (encs c2 a2) a2.length false]) (v := .tup [.sc (.int .i64 x5.1), .sc (.int .i64 x5.2)]) [] (ok_poly_At F _ _ _ hx5) (by simp [f0, f1, f2, f3, f48, f49]) rfl rfl (by simp [f0, f1, f2, f3, f48, f49]) (.cons (.free (freeL_encs fr97 _)) (.cons (.free (freeL_encs fr2 _)) (.nil))) (.inl ⟨rfl, by simp [free, freeL]⟩) (fun t' ht' => ?_)
    refine Stk.gen (fun t H n => t 0 = .ssl (encs c97 a0) a0.length false ∧ t 1 = .ssl (encs c97 a1) a1.length false ∧ t 2 = .ssl (encs c2 a2) a2.length false ∧ t 3 = .sc (.int .i64 a3) ∧ t 50 = .tup [.sc (.int .i64 x5.1), .sc (.int .i64 x5.2)]) ⟨by simp [ht', f0], by simp [ht', f1], by simp [ht', f2], by simp [ht', f3], by simp [ht']⟩ ?_
    clear f0 f1 f2 f3 f48 f49 ht' t'
    rintro t H n ⟨f0, f1, f2, f3, f50⟩
    refine Stk.run 5 (fun t H n => t 0 = .ssl (encs c97 a0) a0.length false ∧ t 1 = .ssl (encs c97 a1) a1.length false ∧ t 2 = .ssl (encs c2 a2) a2.length false ∧ t 3 = .sc (.int .i64 a3) ∧ t 9 = .sc (.int .i64 x5.1) ∧ t 10 = .sc (.int .i64 x5.2)) (fun J hJ => ?_) ?_
    · simp [-splice, f0, f1, f2, f3, f50]
      exact hJ _ _ _ ⟨by simp [f0], by simp [f1], by simp [f2], by simp [f3], by simp [-splice, f0, f1, f2, f3, f50], by simp [-splice, f0, f1, f2, f3, f50]⟩
    clear f0 f1 f2 f3 f50
    rintro t H n ⟨f0, f1, f2, f3, f9, f10⟩
    refine Stk.on ?_
    refine Stk.sq ?_
    refine Stk.rg ?_
    refine Stk.run 2 (fun t H n => t 0 = .ssl (encs c97 a0) a0.length false ∧ t 1 = .ssl (encs c97 a1) a1.length false ∧ t 2 = .ssl (encs c2 a2) a2.length false ∧ t 3 = .sc (.int .i64 a3) ∧ t 9 = .sc (.int .i64 x5.1) ∧ t 10 = .sc (.int .i64 x5.2) ∧ t 54 = .ssl (encs c97 a1) a1.length false ∧ t 55 = .ssl (encs c2 a2) a2.length false) (fun J hJ => ?_) ?_
    · simp [-splice, f0, f1, f2, f3, f9, f10]
      exact hJ _ _ _ ⟨by simp [f0], by simp [f1], by simp [f2], by simp [f3], by simp [f9], by simp [f10], by simp [-splice, f0, f1, f2, f3, f9, f10], by simp [-splice, f0, f1, f2, f3, f9, f10]⟩
    clear f0 f1 f2 f3 f9 f10
    rintro t H n ⟨f0, f1, f2, f3, f9, f10, f54, f55⟩
    obtain ⟨x6, hx6, h⟩ := bnd h
    refine Stk.cv (g := 25) (args := [.ssl (encs c97 a1) a1.length false, .ssl (encs c2 a2) a2.length false]) (args' := [.ssl (encs c97 a1) a1.length false, .ssl (encs c2 a2) a2.length false]) (v := .tup [.sc (.int .i64 x6.1), .sc (.int .i64 x6.2)]) [] (ok_poly_At F _ _ _ hx6) (by simp [f0, f1, f2, f3, f9, f10, f54, f55]) rfl rfl (by simp [f0, f1, f2, f3, f9, f10, f54, f55]) (.cons (.free (freeL_encs fr97 _)) (.cons (.free (freeL_encs fr2 _)) (.nil))) (.inl ⟨rfl, by simp [free, freeL]⟩) (fun t' ht' => ?_)
    refine Stk.gen (fun t H n => t 0 = .ssl (encs c97 a0) a0.length false ∧ t 1 = .ssl (encs c97 a1) a1.length false ∧ t 2 = .ssl (encs c2 a2) a2.length false ∧ t 3 = .sc (.int .i64 a3) ∧ t 9 = .sc (.int .i64 x5.1) ∧ t 10 = .sc (.int .i64 x5.2) ∧ t 56 = .tup [.sc (.int .i64 x6.1), .sc (.int .i64 x6.2)]) ⟨by simp [ht', f0], by simp [ht', f1], by simp [ht', f2], by simp [ht', f3], by simp [ht', f9], by simp [ht', f10], by simp [ht']⟩ ?_
    clear f0 f1 f2 f3 f9 f10 f54 f55 ht' t'
    rintro t H n ⟨f0, f1, f2, f3, f9, f10, f56⟩
    refine Stk.run 5 (fun t H n => t 0 = .ssl (encs c97 a0) a0.length false ∧ t 1 = .ssl (encs c97 a1) a1.length false ∧ t 2 = .ssl (encs c2 a2) a2.length false ∧ t 3 = .sc (.int .i64 a3) ∧ t 9 = .sc (.int .i64 x5.1) ∧ t 10 = .sc (.int .i64 x5.2) ∧ t 11 = .sc (.int .i64 x6.1) ∧ t 12 = .sc (.int .i64 x6.2)) (fun J hJ => ?_) ?_
    · simp [-splice, f0, f1, f2, f3, f9, f10, f56]
      exact hJ _ _ _ ⟨by simp [f0], by simp [f1], by simp [f2], by simp [f3], by simp [f9], by simp [f10], by simp [-splice, f0, f1, f2, f3, f9, f10, f56], by simp [-splice, f0, f1, f2, f3, f9, f10, f56]⟩
    clear f0 f1 f2 f3 f9 f10 f56
    rintro t H n ⟨f0, f1, f2, f3, f9, f10, f11, f12⟩
    refine Stk.on ?_
    refine Stk.sq ?_
    refine Stk.rg ?_
    refine Stk.run 2 (fun t H n => t 0 = .ssl (encs c97 a0) a0.length false ∧ t 1 = .ssl (encs c97 a1) a1.length false ∧ t 2 = .ssl (encs c2 a2) a2.length false ∧ t 3 = .sc (.int .i64 a3) ∧ t 9 = .sc (.int .i64 x5.1) ∧ t 10 = .sc (.int .i64 x5.2) ∧ t 11 = .sc (.int .i64 x6.1) ∧ t 12 = .sc (.int .i64 x6.2) ∧ t 60 = .ssl (encs c97 a0) a0.length false ∧ t 61 = .ssl (encs c97 a1) a1.length false) (fun J hJ => ?_) ?_
    · simp [-splice, f0, f1, f2, f3, f9, f10, f11, f12]
      exact hJ _ _ _ ⟨by simp [f0], by simp [f1], by simp [f2], by simp [f3], by simp [f9], by simp [f10], by simp [f11], by simp [f12], by simp [-splice, f0, f1, f2, f3, f9, f10, f11, f12], by simp [-splice, f0, f1, f2, f3, f9, f10, f11, f12]⟩
    clear f0 f1 f2 f3 f9 f10 f11 f12
    rintro t H n ⟨f0, f1, f2, f3, f9, f10, f11, f12, f60, f61⟩
    obtain ⟨x7, hx7, h⟩ := bnd h
    refine Stk.cv (g := 20) (args := [.ssl (encs c97 a0) a0.length false, .ssl (encs c97 a1) a1.length false]) (args' := [.ssl (encs c97 a0) a0.length false, .ssl (encs c97 a1) a1.length false]) (v := .tup [.ssl (encs c97 x7.1) x7.1.length false, .sc (.int .i64 x7.2)]) [] (ok_poly_Add F _ _ _ hx7) (by simp [f0, f1, f2, f3, f9, f10, f11, f12, f60, f61]) rfl rfl (by simp [f0, f1, f2, f3, f9, f10, f11, f12, f60, f61]) (.cons (.free (freeL_encs fr97 _)) (.cons (.free (freeL_encs fr97 _)) (.nil))) (.inl ⟨rfl, by simp [free, freeL, freeL_encs fr97]⟩) (fun t' ht' => ?_)
    refine Stk.gen (fun t H n => t 0 = .ssl (encs c97 a0) a0.length false ∧ t 1 = .ssl (encs c97 a1) a1.length false ∧ t 2 = .ssl (encs c2 a2) a2.length false ∧ t 3 = .sc (.int .i64 a3) ∧ t 9 = .sc (.int .i64 x5.1) ∧ t 10 = .sc (.int .i64 x5.2) ∧ t 11 = .sc (.int .i64 x6.1) ∧ t 12 = .sc (.int .i64 x6.2) ∧ t 62 = .tup [.ssl (encs c97 x7.1) x7.1.length false, .sc (.int .i64 x7.2)]) ⟨by simp [ht', f0], by simp [ht', f1], by simp [ht', f2], by simp [ht', f3], by simp [ht', f9], by simp [ht', f10], by simp [ht', f11], by simp [ht', f12], by simp [ht']⟩ ?_
    clear f0 f1 f2 f3 f9 f10 f11 f12 f60 f61 ht' t'
    rintro t H n ⟨f0, f1, f2, f3, f9, f10, f11, f12, f62⟩
    refine Stk.run 5 (fun t H n => t 0 = .ssl (encs c97 a0) a0.length false ∧ t 1 = .ssl (encs c97 a1) a1.length false ∧ t 2 = .ssl (encs c2 a2) a2.length false ∧ t 3 = .sc (.int .i64 a3) ∧ t 9 = .sc (.int .i64 x5.1) ∧ t 10 = .sc (.int .i64 x5.2) ∧ t 11 = .sc (.int .i64 x6.1) ∧ t 12 = .sc (.int .i64 x6.2) ∧ t 13 = .ssl (encs c97 x7.1) x7.1.length false ∧ t 14 = .sc (.int .i64 x7.2)) (fun J hJ => ?_) ?_
    · simp [-splice, f0, f1, f2, f3, f9, f10, f11, f12, f62]
      exact hJ _ _ _ ⟨by simp [f0], by simp [f1], by simp [f2], by simp [f3], by simp [f9], by simp [f10], by simp [f11], by simp [f12], by simp [-splice, f0, f1, f2, f3, f9, f10, f11, f12, f62], by simp [-splice, f0, f1, f2, f3, f9, f10, f11, f12, f62]⟩
    clear f0 f1 f2 f3 f9 f10 f11 f12 f62
    rintro t H n ⟨f0, f1, f2, f3, f9, f10, f11, f12, f13, f14⟩
    refine Stk.on ?_
    refine Stk.sq ?_
    refine Stk.rg ?_
    refine Stk.run 2 (fun t H n => t 0 = .ssl (encs c97 a0) a0.length false ∧ t 1 = .ssl (encs c97 a1) a1.length false ∧ t 2 = .ssl (encs c2 a2) a2.length false ∧ t 3 = .sc (.int .i64 a3) ∧ t 9 = .sc (.int .i64 x5.1) ∧ t 10 = .sc (.int .i64 x5.2) ∧ t 11 = .sc (.int .i64 x6.1) ∧ t 12 = .sc (.int .i64 x6.2) ∧ t 13 = .ssl (encs c97 x7.1) x7.1.length false ∧ t 14 = .sc (.int .i64 x7.2) ∧ t 66 = .ssl (encs c97 a0) a0.length false ∧ t 67 = .ssl (encs c97 a1) a1.length false) (fun J hJ => ?_) ?_
    · simp [-splice, f0, f1, f2, f3, f9, f10, f11, f12, f13, f14]
      exact hJ _ _ _ ⟨by simp [f0], by simp [f1], by simp [f2], by simp [f3], by simp [f9], by simp [f10], by simp [f11], by simp [f12], by simp [f13], by simp [f14], by simp [-splice, f0, f1, f2, f3, f9, f10, f11, f12, f13, f14], by simp [-splice, f0, f1, f2, f3, f9, f10, f11, f12, f13, f14]⟩
    clear f0 f1 f2 f3 f9 f10 f11 f12 f13 f14
    rintro t H n ⟨f0, f1, f2, f3, f9, f10, f11, f12, f13, f14, f66, f67⟩
    obtain ⟨x8, hx8, h⟩ := bnd h
    refine Stk.cv (g := 21) (args := [.ssl (encs c97 a0) a0.length false, .ssl (encs c97 a1) a1.length false]) (args' := [.ssl (encs c97 a0) a0.length false, .ssl (encs c97 a1) a1.length false]) (v := .tup [.ssl (encs c97 x8.1) x8.1.length false, .sc (.int .i64 x8.2)]) [] (ok_poly_Mul F _ _ _ hx8) (by simp [f0, f1, f2, f3, f9, f10, f11, f12, f13, f14, f66, f67]) rfl rfl (by simp [f0, f1, f2, f3, f9, f10, f11, f12, f13, f14, f66, f67]) (.cons (.free (freeL_encs fr97 _)) (.cons (.free (freeL_encs fr97 _)) (.nil))) (.inl ⟨rfl, by simp [free, freeL, freeL_encs fr97]⟩) (fun t' ht' => ?_)
    refine Stk.gen (fun t H n => t 0 = .ssl (encs c97 a0) a0.length false ∧ t 1 = .ssl (encs c97 a1) a1.length false ∧ t 2 = .ssl (encs c2 a2) a2.length false ∧ t 3 = .sc (.int .i64 a3) ∧ t 9 = .sc (.int .i64 x5.1) ∧ t 10 = .sc (.int .i64 x5.2) ∧ t 11 = .sc (.int .i64 x6.1) ∧ t 12 = .sc (.int .i64 x6.2) ∧ t 13 = .ssl (encs c97 x7.1) x7.1.length false ∧ t 14 = .sc (.int .i64 x7.2) ∧ t 68 = .tup [.ssl (encs c97 x8.1) x8.1.length false, .sc (.int .i64 x8.2)]) ⟨by simp [ht', f0], by simp [ht', f1], by simp [ht', f2], by simp [ht', f3], by simp [ht', f9], by simp [ht', f10], by simp [ht', f11], by simp [ht', f12], by simp [ht', f13], by simp [ht', f14], by simp [ht']⟩ ?_
    clear f0 f1 f2 f3 f9 f10 f11 f12 f13 f14 f66 f67 ht' t'
    rintro t H n ⟨f0, f1, f2, f3, f9, f10, f11, f12, f13, f14, f68⟩
    refine Stk.run 5 (fun t H n => t 0 = .ssl (encs c97 a0) a0.length false ∧ t 1 = .ssl (encs c97 a1) a1.length false ∧ t 2 = .ssl (encs c2 a2) a2.length false ∧ t 3 = .sc (.int .i64 a3) ∧ t 9 = .sc (.int .i64 x5.1) ∧ t 10 = .sc (.int .i64 x5.2) ∧ t 11 = .sc (.int .i64 x6.1) ∧ t 12 = .sc (.int .i64 x6.2) ∧ t 13 = .ssl (encs c97 x7.1) x7.1.length false ∧ t 14 = .sc (.int .i64 x7.2) ∧ t 15 = .ssl (encs c97 x8.1) x8.1.length false ∧ t 16 = .sc (.int .i64 x8.2)) (fun J hJ => ?_) ?_
    · simp [-splice, f0, f1, f2, f3, f9, f10, f11, f12, f13, f14, f68]
      exact hJ _ _ _ ⟨by simp [f0], by simp [f1], by simp [f2], by simp [f3], by simp [f9], by simp [f10], by simp [f11], by simp [f12], by simp [f13], by simp [f14], by simp [-splice, f0, f1, f2, f3, f9, f10, f11, f12, f13, f14, f68], by simp [-splice, f0, f1, f2, f3, f9, f10, f11, f12, f13, f14, f68]⟩
    clear f0 f1 f2 f3 f9 f10 f11 f12 f13 f14 f68
    rintro t H n ⟨f0, f1, f2, f3, f9, f10, f11, f12, f13, f14, f15, f16⟩
    refine Stk.on ?_
    refine Stk.sq ?_
    refine Stk.rg ?_
    refine Stk.run 2 (fun t H n => t 0 = .ssl (encs c97 a0) a0.length false ∧ t 2 = .ssl (encs c2 a2) a2.length false ∧ t 3 = .sc (.int .i64 a3) ∧ t 9 = .sc (.int .i64 x5.1) ∧ t 10 = .sc (.int .i64 x5.2) ∧ t 11 = .sc (.int .i64 x6.1) ∧ t 12 = .sc (.int .i64 x6.2) ∧ t 13 = .ssl (encs c97 x7.1) x7.1.length false ∧ t 14 = .sc (.int .i64 x7.2) ∧ t 15 = .ssl (encs c97 x8.1) x8.1.length false ∧ t 16 = .sc (.int .i64 x8.2) ∧ t 72 = .ssl (encs c97 a0) a0.length false ∧ t 73 = .ssl (encs c97 a1) a1.length false) (fun J hJ => ?_) ?_
    · simp [-splice, f0, f1, f2, f3, f9, f10, f11, f12, f13, f14, f15, f16]
      exact hJ _ _ _ ⟨by simp [f0], by simp [f2], by simp [f3], by simp [f9], by simp [f10], by simp [f11], by simp [f12], by simp [f13], by simp [f14], by simp [f15], by simp [f16], by simp [-splice, f0, f1, f2, f3, f9, f10, f11, f12, f13, f14, f15, f16], by simp [-splice, f0, f1, f2, f3, f9, f10, f11, f12, f13, f14, f15, f16]⟩
    clear f0 f1 f2 f3 f9 f10 f11 f12 f13 f14 f15 f16
    rintro t H n ⟨f0, f2, f3, f9, f10, f11, f12, f13, f14, f15, f16, f72, f73⟩
    obtain ⟨x9, hx9, h⟩ := bnd h
    refine Stk.cv (g := 24) (args := [.ssl (encs c97 a0) a0.length false, .ssl (encs c97 a1) a1.length false]) (args' := [.ssl (encs c97 a0) a0.length false, .ssl (encs c97 a1) a1.length false]) (v := .tup [.ssl (encs c97 x9.1) x9.1.length false, .sc (.int .i64 x9.2)]) [] (ok_poly_Max F _ _ _ hx9) (by simp [f0, f2, f3, f9, f10, f11, f12, f13, f14, f15, f16, f72, f73]) rfl rfl (by simp [f0, f2, f3, f9, f10, f11, f12, f13, f14, f15, f16, f72, f73]) (.cons (.free (freeL_encs fr97 _)) (.cons (.free (freeL_encs fr97 _)) (.nil))) (.inl ⟨rfl, by simp [free, freeL, freeL_encs fr97]⟩) (fun t' ht' => ?_)
    refine Stk.gen (fun t H n => t 0 = .ssl (encs c97 a0) a0.length false ∧ t 2 = .ssl (encs c2 a2) a2.length false ∧ t 3 = .sc (.int .i64 a3) ∧ t 9 = .sc (.int .i64 x5.1) ∧ t 10 = .sc (.int .i64 x5.2) ∧ t 11 = .sc (.int .i64 x6.1) ∧ t 12 = .sc (.int .i64 x6.2) ∧ t 13 = .ssl (encs c97 x7.1) x7.1.length false ∧ t 14 = .sc (.int .i64 x7.2) ∧ t 15 = .ssl (encs c97 x8.1) x8.1.length false ∧ t 16 = .sc (.int .i64 x8.2) ∧ t 74 = .tup [.ssl (encs c97 x9.1) x9.1.length false, .sc (.int .i64 x9.2)]) ⟨by simp [ht', f0], by simp [ht', f2], by simp [ht', f3], by simp [ht', f9], by simp [ht', f10], by simp [ht', f11], by simp [ht', f12], by simp [ht', f13], by simp [ht', f14], by simp [ht', f15], by simp [ht', f16], by simp [ht']⟩ ?_
    clear f0 f2 f3 f9 f10 f11 f12 f13 f14 f15 f16 f72 f73 ht' t'
    rintro t H n ⟨f0, f2, f3, f9, f10, f11, f12, f13, f14, f15, f16, f74⟩
    refine Stk.run 5 (fun t H n => t 0 = .ssl (encs c97 a0) a0.length false ∧ t 2 = .ssl (encs c2 a2) a2.length false ∧ t 3 = .sc (.int .i64 a3) ∧ t 9 = .sc (.int .i64 x5.1) ∧ t 10 = .sc (.int .i64 x5.2) ∧ t 11 = .sc (.int .i64 x6.1) ∧ t 12 = .sc (.int .i64 x6.2) ∧ t 13 = .ssl (encs c97 x7.1) x7.1.length false ∧ t 14 = .sc (.int .i64 x7.2) ∧ t 15 = .ssl (encs c97 x8.1) x8.1.length false ∧ t 16 = .sc (.int .i64 x8.2) ∧ t 17 = .ssl (encs c97 x9.1) x9.1.length false ∧ t 18 = .sc (.int .i64 x9.2)) (fun J hJ => ?_) ?_
    · simp [-splice, f0, f2, f3, f9, f10, f11, f12, f13, f14, f15, f16, f74]
      exact hJ _ _ _ ⟨by simp [f0], by simp [f2], by simp [f3], by simp [f9], by simp [f10], by simp [f11], by simp [f12], by simp [f13], by simp [f14], by simp [f15], by simp [f16], by simp [-splice, f0, f2, f3, f9, f10, f11, f12, f13, f14, f15, f16, f74], by simp [-splice, f0, f2, f3, f9, f10, f11, f12, f13, f14, f15, f16, f74]⟩
    clear f0 f2 f3 f9 f10 f11 f12 f13 f14 f15 f16 f74
    rintro t H n ⟨f0, f2, f3, f9, f10, f11, f12, f13, f14, f15, f16, f17, f18⟩
    refine Stk.on ?_
    refine Stk.sq ?_
    refine Stk.sq ?_
    refine Stk.rg ?_
    refine Stk.run 3 (fun t H n => t 0 = .ssl (encs c97 a0) a0.length false ∧ t 2 = .ssl (encs c2 a2) a2.length false ∧ t 3 = .sc (.int .i64 a3) ∧ t 9 = .sc (.int .i64 x5.1) ∧ t 11 = .sc (.int .i64 x6.1) ∧ t 12 = .sc (.int .i64 x6.2) ∧ t 13 = .ssl (encs c97 x7.1) x7.1.length false ∧ t 14 = .sc (.int .i64 x7.2) ∧ t 15 = .ssl (encs c97 x8.1) x8.1.length false ∧ t 16 = .sc (.int .i64 x8.2) ∧ t 17 = .ssl (encs c97 x9.1) x9.1.length false ∧ t 18 = .sc (.int .i64 x9.2) ∧ t 79 = .sc (.bool (x5.2 != 0))) (fun J hJ => ?_) ?_
    · simp [-splice, f0, f2, f3, f9, f10, f11, f12, f13, f14, f15, f16, f17, f18]
      exact hJ _ _ _ ⟨by simp [f0], by simp [f2], by simp [f3], by simp [f9], by simp [f11], by simp [f12], by simp [f13], by simp [f14], by simp [f15], by simp [f16], by simp [f17], by simp [f18], by simp [-splice, f0, f2, f3, f9, f10, f11, f12, f13, f14, f15, f16, f17, f18]⟩
    clear f0 f2 f3 f9 f10 f11 f12 f13 f14 f15 f16 f17 f18
    rintro t H n ⟨f0, f2, f3, f9, f11, f12, f13, f14, f15, f16, f17, f18, f79⟩
    refine Stk.jo 3 (fun t H n => t 0 = .ssl (encs c97 a0) a0.length false ∧ t 2 = .ssl (encs c2 a2) a2.length false ∧ t 3 = .sc (.int .i64 a3) ∧ t 9 = .sc (.int .i64 x5.1) ∧ t 11 = .sc (.int .i64 x6.1) ∧ t 13 = .ssl (encs c97 x7.1) x7.1.length false ∧ t 14 = .sc (.int .i64 x7.2) ∧ t 15 = .ssl (encs c97 x8.1) x8.1.length false ∧ t 16 = .sc (.int .i64 x8.2) ∧ t 17 = .ssl (encs c97 x9.1) x9.1.length false ∧ t 18 = .sc (.int .i64 x9.2) ∧ t 82 = .sc (.bool ((x5.2 != 0) || (x6.2 != 0)))) (fun J2 hJ2 => ?_) ?_
    · rcases Bool.eq_false_or_eq_true (x5.2 != 0) with hb2 | hb2
      · rw [hb2] at f79
        refine Stk.run 3 (fun t H n => t 0 = .ssl (encs c97 a0) a0.length false ∧ t 2 = .ssl (encs c2 a2) a2.length false ∧ t 3 = .sc (.int .i64 a3) ∧ t 9 = .sc (.int .i64 x5.1) ∧ t 11 = .sc (.int .i64 x6.1) ∧ t 13 = .ssl (encs c97 x7.1) x7.1.length false ∧ t 14 = .sc (.int .i64 x7.2) ∧ t 15 = .ssl (encs c97 x8.1) x8.1.length false ∧ t 16 = .sc (.int .i64 x8.2) ∧ t 17 = .ssl (encs c97 x9.1) x9.1.length false ∧ t 18 = .sc (.int .i64 x9.2) ∧ t 82 = .sc (.bool true)) (fun J hJ => ?_) ?_
        · simp [-splice, f0, f2, f3, f9, f11, f12, f13, f14, f15, f16, f17, f18, f79]
          exact hJ _ _ _ ⟨by simp [f0], by simp [f2], by simp [f3], by simp [f9], by simp [f11], by simp [f13], by simp [f14], by simp [f15], by simp [f16], by simp [f17], by simp [f18], by simp [-splice, f0, f2, f3, f9, f11, f12, f13, f14, f15, f16, f17, f18, f79]⟩
        clear f0 f2 f3 f9 f11 f12 f13 f14 f15 f16 f17 f18 f79
        rintro t H n ⟨f0, f2, f3, f9, f11, f13, f14, f15, f16, f17, f18, f82⟩
        refine Stk.on ?_
        exact Stk.ln 0 (by decide) (hJ2 _ _ _ ⟨f0, f2, f3, f9, f11, f13, f14, f15, f16, f17, f18, f82.trans (congrArg (fun q => AV.sc (.bool q)) (by rw [hb2]; rfl))⟩)
      · rw [hb2] at f79
        refine Stk.run 3 (fun t H n => t 0 = .ssl (encs c97 a0) a0.length false ∧ t 2 = .ssl (encs c2 a2) a2.length false ∧ t 3 = .sc (.int .i64 a3) ∧ t 9 = .sc (.int .i64 x5.1) ∧ t 11 = .sc (.int .i64 x6.1) ∧ t 13 = .ssl (encs c97 x7.1) x7.1.length false ∧ t 14 = .sc (.int .i64 x7.2) ∧ t 15 = .ssl (encs c97 x8.1) x8.1.length false ∧ t 16 = .sc (.int .i64 x8.2) ∧ t 17 = .ssl (encs c97 x9.1) x9.1.length false ∧ t 18 = .sc (.int .i64 x9.2) ∧ t 82 = .sc (.bool (x6.2 != 0))) (fun J hJ => ?_) ?_
        · simp [-splice, f0, f2, f3, f9, f11, f12, f13, f14, f15, f16, f17, f18, f79]
          exact hJ _ _ _ ⟨by simp [f0], by simp [f2], by simp [f3], by simp [f9], by simp [f11], by simp [f13], by simp [f14], by simp [f15], by simp [f16], by simp [f17], by simp [f18], by simp [-splice, f0, f2, f3, f9, f11, f12, f13, f14, f15, f16, f17, f18, f79]⟩
        clear f0 f2 f3 f9 f11 f12 f13 f14 f15 f16 f17 f18 f79
        rintro t H n ⟨f0, f2, f3, f9, f11, f13, f14, f15, f16, f17, f18, f82⟩
        refine Stk.on ?_
        exact Stk.ln 0 (by decide) (hJ2 _ _ _ ⟨f0, f2, f3, f9, f11, f13, f14, f15, f16, f17, f18, f82.trans (congrArg (fun q => AV.sc (.bool q)) (by rw [hb2]; rfl))⟩)
    clear f0 f2 f3 f9 f11 f12 f13 f14 f15 f16 f17 f18 f79
    rintro t H n ⟨f0, f2, f3, f9, f11, f13, f14, f15, f16, f17, f18, f82⟩
    refine Stk.on ?_
    refine Stk.cond ((x5.2 != 0) || (x6.2 != 0)) (by exact f82) (fun hb10 => ?_) (fun hb10 => ?_)
    · have h := cT hb10 h
      refine Stk.sq ?_
      refine Stk.rg ?_
      obtain ⟨x11, hx11, h⟩ := bnd h
      refine Stk.cv (g := 19) (args := []) (args' := []) (v := .sc (.bool x11)) [] (ok_L13_awake F  _ hx11) (by simp [f0, f2, f3, f9, f11, f13, f14, f15, f16, f17, f18, f82]) rfl rfl (by simp [f0, f2, f3, f9, f11, f13, f14, f15, f16, f17, f18, f82]) (.nil) (.inl ⟨rfl, rfl⟩) (fun t' ht' => ?_)
      refine Stk.gen (fun t H n => t 83 = .sc (.bool x11)) (by simp [ht']) ?_
      clear f0 f2 f3 f9 f11 f13 f14 f15 f16 f17 f18 f82 ht' t'
      rintro t H n f83
      refine Stk.run 1 (fun t H n => t 8 = .sc (.bool x11)) (fun J hJ => ?_) ?_
      · simp [-splice, f83]
        exact hJ _ _ _ (by simp [-splice, f83])
      clear f83
      rintro t H n f8
      refine Stk.on ?_
      refine Stk.rt ?_
      have hq := Option.some.inj h; subst hq
      exact (hr _ _ _ (.sc (.bool x11)) ([]) (by simp [f8]) (.inr (.inr (.free (rfl))))).1
    · have h := cF hb10 h
      refine Stk.sk ?_
      refine Stk.sq ?_
      refine Stk.sq ?_
      refine Stk.rg ?_
      refine Stk.run 2 (fun t H n => t 0 = .ssl (encs c97 a0) a0.length false ∧ t 2 = .ssl (encs c2 a2) a2.length false ∧ t 3 = .sc (.int .i64 a3) ∧ t 9 = .sc (.int .i64 x5.1) ∧ t 11 = .sc (.int .i64 x6.1) ∧ t 14 = .sc (.int .i64 x7.2) ∧ t 15 = .ssl (encs c97 x8.1) x8.1.length false ∧ t 16 = .sc (.int .i64 x8.2) ∧ t 17 = .ssl (encs c97 x9.1) x9.1.length false ∧ t 18 = .sc (.int .i64 x9.2) ∧ t 85 = .ssl (encs c97 x7.1) x7.1.length false ∧ t 86 = .ssl (encs c2 a2) a2.length false) (fun J hJ => ?_) ?_
      · simp [-splice, f0, f2, f3, f9, f11, f13, f14, f15, f16, f17, f18, f82]
        exact hJ _ _ _ ⟨by simp [f0], by simp [f2], by simp [f3], by simp [f9], by simp [f11], by simp [f14], by simp [f15], by simp [f16], by simp [f17], by simp [f18], by simp [-splice, f0, f2, f3, f9, f11, f13, f14, f15, f16, f17, f18, f82], by simp [-splice, f0, f2, f3, f9, f11, f13, f14, f15, f16, f17, f18, f82]⟩
      clear f0 f2 f3 f9 f11 f13 f14 f15 f16 f17 f18 f82
      rintro t H n ⟨f0, f2, f3, f9, f11, f14, f15, f16, f17, f18, f85, f86⟩
      obtain ⟨x12, hx12, h⟩ := bnd h
      refine Stk.cv (g := 25) (args := [.ssl (encs c97 x7.1) x7.1.length false, .ssl (encs c2 a2) a2.length false]) (args' := [.ssl (encs c97 x7.1) x7.1.length false, .ssl (encs c2 a2) a2.length false]) (v := .tup [.sc (.int .i64 x12.1), .sc (.int .i64 x12.2)]) [] (ok_poly_At F _ _ _ hx12) (by simp [f0, f2, f3, f9, f11, f14, f15, f16, f17, f18, f85, f86]) rfl rfl (by simp [f0, f2, f3, f9, f11, f14, f15, f16, f17, f18, f85, f86]) (.cons (.free (freeL_encs fr97 _)) (.cons (.free (freeL_encs fr2 _)) (.nil))) (.inl ⟨rfl, by simp [free, freeL]⟩) (fun t' ht' => ?_)
      refine Stk.gen (fun t H n => t 0 = .ssl (encs c97 a0) a0.length false ∧ t 2 = .ssl (encs c2 a2) a2.length false ∧ t 3 = .sc (.int .i64 a3) ∧ t 9 = .sc (.int .i64 x5.1) ∧ t 11 = .sc (.int .i64 x6.1) ∧ t 14 = .sc (.int .i64 x7.2) ∧ t 15 = .ssl (encs c97 x8.1) x8.1.length false ∧ t 16 = .sc (.int .i64 x8.2) ∧ t 17 = .ssl (encs c97 x9.1) x9.1.length false ∧ t 18 = .sc (.int .i64 x9.2) ∧ t 87 = .tup [.sc (.int .i64 x12.1), .sc (.int .i64 x12.2)]) ⟨by simp [ht', f0], by simp [ht', f2], by simp [ht', f3], by simp [ht', f9], by simp [ht', f11], by simp [ht', f14], by simp [ht', f15], by simp [ht', f16], by simp [ht', f17], by simp [ht', f18], by simp [ht']⟩ ?_
      clear f0 f2 f3 f9 f11 f14 f15 f16 f17 f18 f85 f86 ht' t'
      rintro t H n ⟨f0, f2, f3, f9, f11, f14, f15, f16, f17, f18, f87⟩
      refine Stk.run 5 (fun t H n => t 0 = .ssl (encs c97 a0) a0.length false ∧ t 2 = .ssl (encs c2 a2) a2.length false ∧ t 3 = .sc (.int .i64 a3) ∧ t 9 = .sc (.int .i64 x5.1) ∧ t 11 = .sc (.int .i64 x6.1) ∧ t 14 = .sc (.int .i64 x7.2) ∧ t 15 = .ssl (encs c97 x8.1) x8.1.length false ∧ t 16 = .sc (.int .i64 x8.2) ∧ t 17 = .ssl (encs c97 x9.1) x9.1.length false ∧ t 18 = .sc (.int .i64 x9.2) ∧ t 19 = .sc (.int .i64 x12.1) ∧ t 20 = .sc (.int .i64 x12.2)) (fun J hJ => ?_) ?_
      · simp [-splice, f0, f2, f3, f9, f11, f14, f15, f16, f17, f18, f87]
        exact hJ _ _ _ ⟨by simp [f0], by simp [f2], by simp [f3], by simp [f9], by simp [f11], by simp [f14], by simp [f15], by simp [f16], by simp [f17], by simp [f18], by simp [-splice, f0, f2, f3, f9, f11, f14, f15, f16, f17, f18, f87], by simp [-splice, f0, f2, f3, f9, f11, f14, f15, f16, f17, f18, f87]⟩
      clear f0 f2 f3 f9 f11 f14 f15 f16 f17 f18 f87
      rintro t H n ⟨f0, f2, f3, f9, f11, f14, f15, f16, f17, f18, f19, f20⟩
      refine Stk.on ?_
      refine Stk.sq ?_
      refine Stk.rg ?_
      refine Stk.run 3 (fun t H n => t 0 = .ssl (encs c97 a0) a0.length false ∧ t 2 = .ssl (encs c2 a2) a2.length false ∧ t 3 = .sc (.int .i64 a3) ∧ t 9 = .sc (.int .i64 x5.1) ∧ t 11 = .sc (.int .i64 x6.1) ∧ t 14 = .sc (.int .i64 x7.2) ∧ t 15 = .ssl (encs c97 x8.1) x8.1.length false ∧ t 16 = .sc (.int .i64 x8.2) ∧ t 17 = .ssl (encs c97 x9.1) x9.1.length false ∧ t 18 = .sc (.int .i64 x9.2) ∧ t 19 = .sc (.int .i64 x12.1) ∧ t 20 = .sc (.int .i64 x12.2) ∧ t 92 = .sc (.bool (x7.2 == 0))) (fun J hJ => ?_) ?_
      · simp [-splice, f0, f2, f3, f9, f11, f14, f15, f16, f17, f18, f19, f20]
        exact hJ _ _ _ ⟨by simp [f0], by simp [f2], by simp [f3], by simp [f9], by simp [f11], by simp [f14], by simp [f15], by simp [f16], by simp [f17], by simp [f18], by simp [f19], by simp [f20], by simp [-splice, f0, f2, f3, f9, f11, f14, f15, f16, f17, f18, f19, f20]⟩
      clear f0 f2 f3 f9 f11 f14 f15 f16 f17 f18 f19 f20
      rintro t H n ⟨f0, f2, f3, f9, f11, f14, f15, f16, f17, f18, f19, f20, f92⟩
      refine Stk.jo 8 (fun t H n => t 0 = .ssl (encs c97 a0) a0.length false ∧ t 2 = .ssl (encs c2 a2) a2.length false ∧ t 3 = .sc (.int .i64 a3) ∧ t 9 = .sc (.int .i64 x5.1) ∧ t 11 = .sc (.int .i64 x6.1) ∧ t 14 = .sc (.int .i64 x7.2) ∧ t 15 = .ssl (encs c97 x8.1) x8.1.length false ∧ t 16 = .sc (.int .i64 x8.2) ∧ t 17 = .ssl (encs c97 x9.1) x9.1.length false ∧ t 18 = .sc (.int .i64 x9.2) ∧ t 19 = .sc (.int .i64 x12.1) ∧ t 20 = .sc (.int .i64 x12.2) ∧ t 100 = .sc (.bool ((x7.2 == 0) && (!((x12.2 == 0) == (decide ((IntKind.i64.wrap (x5.1 + x6.1)) ≤ 1099511627776))))))) (fun J3 hJ3 => ?_) ?_
      · rcases Bool.eq_false_or_eq_true (x7.2 == 0) with hb3 | hb3
        · rw [hb3] at f92
          refine Stk.run 8 (fun t H n => t 0 = .ssl (encs c97 a0) a0.length false ∧ t 2 = .ssl (encs c2 a2) a2.length false ∧ t 3 = .sc (.int .i64 a3) ∧ t 9 = .sc (.int .i64 x5.1) ∧ t 11 = .sc (.int .i64 x6.1) ∧ t 14 = .sc (.int .i64 x7.2) ∧ t 15 = .ssl (encs c97 x8.1) x8.1.length false ∧ t 16 = .sc (.int .i64 x8.2) ∧ t 17 = .ssl (encs c97 x9.1) x9.1.length false ∧ t 18 = .sc (.int .i64 x9.2) ∧ t 19 = .sc (.int .i64 x12.1) ∧ t 20 = .sc (.int .i64 x12.2) ∧ t 100 = .sc (.bool (!((x12.2 == 0) == (decide ((IntKind.i64.wrap (x5.1 + x6.1)) ≤ 1099511627776)))))) (fun J hJ => ?_) ?_
          · simp [-splice, f0, f2, f3, f9, f11, f14, f15, f16, f17, f18, f19, f20, f92, eqM4]
            exact hJ _ _ _ ⟨by simp [f0], by simp [f2], by simp [f3], by simp [f9], by simp [f11], by simp [f14], by simp [f15], by simp [f16], by simp [f17], by simp [f18], by simp [f19], by simp [f20], by simp [-splice, f0, f2, f3, f9, f11, f14, f15, f16, f17, f18, f19, f20, f92, eqM4]⟩
          clear f0 f2 f3 f9 f11 f14 f15 f16 f17 f18 f19 f20 f92
          rintro t H n ⟨f0, f2, f3, f9, f11, f14, f15, f16, f17, f18, f19, f20, f100⟩
          refine Stk.on ?_
          exact Stk.ln 0 (by decide) (hJ3 _ _ _ ⟨f0, f2, f3, f9, f11, f14, f15, f16, f17, f18, f19, f20, f100.trans (congrArg (fun q => AV.sc (.bool q)) (by rw [hb3]; rfl))⟩)
        · rw [hb3] at f92
          refine Stk.run 8 (fun t H n => t 0 = .ssl (encs c97 a0) a0.length false ∧ t 2 = .ssl (encs c2 a2) a2.length false ∧ t 3 = .sc (.int .i64 a3) ∧ t 9 = .sc (.int .i64 x5.1) ∧ t 11 = .sc (.int .i64 x6.1) ∧ t 14 = .sc (.int .i64 x7.2) ∧ t 15 = .ssl (encs c97 x8.1) x8.1.length false ∧ t 16 = .sc (.int .i64 x8.2) ∧ t 17 = .ssl (encs c97 x9.1) x9.1.length false ∧ t 18 = .sc (.int .i64 x9.2) ∧ t 19 = .sc (.int .i64 x12.1) ∧ t 20 = .sc (.int .i64 x12.2) ∧ t 100 = .sc (.bool false)) (fun J hJ => ?_) ?_
          · simp [-splice, f0, f2, f3, f9, f11, f14, f15, f16, f17, f18, f19, f20, f92]
            exact hJ _ _ _ ⟨by simp [f0], by simp [f2], by simp [f3], by simp [f9], by simp [f11], by simp [f14], by simp [f15], by simp [f16], by simp [f17], by simp [f18], by simp [f19], by simp [f20], by simp [-splice, f0, f2, f3, f9, f11, f14, f15, f16, f17, f18, f19, f20, f92]⟩
          clear f0 f2 f3 f9 f11 f14 f15 f16 f17 f18 f19 f20 f92
          rintro t H n ⟨f0, f2, f3, f9, f11, f14, f15, f16, f17, f18, f19, f20, f100⟩
          refine Stk.on ?_
          exact Stk.ln 0 (by decide) (hJ3 _ _ _ ⟨f0, f2, f3, f9, f11, f14, f15, f16, f17, f18, f19, f20, f100.trans (congrArg (fun q => AV.sc (.bool q)) (by rw [hb3]; rfl))⟩)
      clear f0 f2 f3 f9 f11 f14 f15 f16 f17 f18 f19 f20 f92
      rintro t H n ⟨f0, f2, f3, f9, f11, f14, f15, f16, f17, f18, f19, f20, f100⟩
      refine Stk.run 1 (fun t H n => t 0 = .ssl (encs c97 a0) a0.length false ∧ t 2 = .ssl (encs c2 a2) a2.length false ∧ t 3 = .sc (.int .i64 a3) ∧ t 9 = .sc (.int .i64 x5.1) ∧ t 11 = .sc (.int .i64 x6.1) ∧ t 14 = .sc (.int .i64 x7.2) ∧ t 15 = .ssl (encs c97 x8.1) x8.1.length false ∧ t 16 = .sc (.int .i64 x8.2) ∧ t 17 = .ssl (encs c97 x9.1) x9.1.length false ∧ t 18 = .sc (.int .i64 x9.2) ∧ t 19 = .sc (.int .i64 x12.1) ∧ t 20 = .sc (.int .i64 x12.2) ∧ t 101 = .sc (.bool ((x7.2 == 0) && (!((x12.2 == 0) == (decide ((IntKind.i64.wrap (x5.1 + x6.1)) ≤ 1099511627776))))))) (fun J hJ => ?_) ?_
      · simp [-splice, f0, f2, f3, f9, f11, f14, f15, f16, f17, f18, f19, f20, f100]
        exact hJ _ _ _ ⟨by simp [f0], by simp [f2], by simp [f3], by simp [f9], by simp [f11], by simp [f14], by simp [f15], by simp [f16], by simp [f17], by simp [f18], by simp [f19], by simp [f20], by simp [-splice, f0, f2, f3, f9, f11, f14, f15, f16, f17, f18, f19, f20, f100]⟩
      clear f0 f2 f3 f9 f11 f14 f15 f16 f17 f18 f19 f20 f100
      rintro t H n ⟨f0, f2, f3, f9, f11, f14, f15, f16, f17, f18, f19, f20, f101⟩
      refine Stk.jo 14 (fun t H n => t 0 = .ssl (encs c97 a0) a0.length false ∧ t 2 = .ssl (encs c2 a2) a2.length false ∧ t 3 = .sc (.int .i64 a3) ∧ t 9 = .sc (.int .i64 x5.1) ∧ t 11 = .sc (.int .i64 x6.1) ∧ t 15 = .ssl (encs c97 x8.1) x8.1.length false ∧ t 16 = .sc (.int .i64 x8.2) ∧ t 17 = .ssl (encs c97 x9.1) x9.1.length false ∧ t 18 = .sc (.int .i64 x9.2) ∧ t 115 = .sc (.bool (((x7.2 == 0) && (!((x12.2 == 0) == (decide ((IntKind.i64.wrap (x5.1 + x6.1)) ≤ 1099511627776))))) || (((x7.2 == 0) && (x12.2 == 0)) && (x12.1 != (IntKind.i64.wrap (x5.1 + x6.1))))))) (fun J4 hJ4 => ?_) ?_
      · rcases Bool.eq_false_or_eq_true ((x7.2 == 0) && (!((x12.2 == 0) == (decide ((IntKind.i64.wrap (x5.1 + x6.1)) ≤ 1099511627776))))) with hb4 | hb4
        · rw [hb4] at f101
          refine Stk.run 14 (fun t H n => t 0 = .ssl (encs c97 a0) a0.length false ∧ t 2 = .ssl (encs c2 a2) a2.length false ∧ t 3 = .sc (.int .i64 a3) ∧ t 9 = .sc (.int .i64 x5.1) ∧ t 11 = .sc (.int .i64 x6.1) ∧ t 15 = .ssl (encs c97 x8.1) x8.1.length false ∧ t 16 = .sc (.int .i64 x8.2) ∧ t 17 = .ssl (encs c97 x9.1) x9.1.length false ∧ t 18 = .sc (.int .i64 x9.2) ∧ t 115 = .sc (.bool true)) (fun J hJ => ?_) ?_
          · simp [-splice, f0, f2, f3, f9, f11, f14, f15, f16, f17, f18, f19, f20, f101]
            exact hJ _ _ _ ⟨by simp [f0], by simp [f2], by simp [f3], by simp [f9], by simp [f11], by simp [f15], by simp [f16], by simp [f17], by simp [f18], by simp [-splice, f0, f2, f3, f9, f11, f14, f15, f16, f17, f18, f19, f20, f101]⟩
          clear f0 f2 f3 f9 f11 f14 f15 f16 f17 f18 f19 f20 f101
          rintro t H n ⟨f0, f2, f3, f9, f11, f15, f16, f17, f18, f115⟩
          refine Stk.on ?_
          exact Stk.ln 0 (by decide) (hJ4 _ _ _ ⟨f0, f2, f3, f9, f11, f15, f16, f17, f18, f115.trans (congrArg (fun q => AV.sc (.bool q)) (by rw [hb4]; rfl))⟩)
        · rw [hb4] at f101
          refine Stk.run 3 (fun t H n => t 0 = .ssl (encs c97 a0) a0.length false ∧ t 2 = .ssl (encs c2 a2) a2.length false ∧ t 3 = .sc (.int .i64 a3) ∧ t 9 = .sc (.int .i64 x5.1) ∧ t 11 = .sc (.int .i64 x6.1) ∧ t 15 = .ssl (encs c97 x8.1) x8.1.length false ∧ t 16 = .sc (.int .i64 x8.2) ∧ t 17 = .ssl (encs c97 x9.1) x9.1.length false ∧ t 18 = .sc (.int .i64 x9.2) ∧ t 19 = .sc (.int .i64 x12.1) ∧ t 20 = .sc (.int .i64 x12.2) ∧ t 101 = .sc (.bool false) ∧ t 104 = .sc (.bool (x7.2 == 0))) (fun J hJ => ?_) ?_
          · simp [-splice, f0, f2, f3, f9, f11, f14, f15, f16, f17, f18, f19, f20, f101]
            exact hJ _ _ _ ⟨by simp [f0], by simp [f2], by simp [f3], by simp [f9], by simp [f11], by simp [f15], by simp [f16], by simp [f17], by simp [f18], by simp [f19], by simp [f20], by simp [f101], by simp [-splice, f0, f2, f3, f9, f11, f14, f15, f16, f17, f18, f19, f20, f101]⟩
          clear f0 f2 f3 f9 f11 f14 f15 f16 f17 f18 f19 f20 f101
          rintro t H n ⟨f0, f2, f3, f9, f11, f15, f16, f17, f18, f19, f20, f101, f104⟩
          refine Stk.jo 3 (fun t H n => t 0 = .ssl (encs c97 a0) a0.length false ∧ t 2 = .ssl (encs c2 a2) a2.length false ∧ t 3 = .sc (.int .i64 a3) ∧ t 9 = .sc (.int .i64 x5.1) ∧ t 11 = .sc (.int .i64 x6.1) ∧ t 15 = .ssl (encs c97 x8.1) x8.1.length false ∧ t 16 = .sc (.int .i64 x8.2) ∧ t 17 = .ssl (encs c97 x9.1) x9.1.length false ∧ t 18 = .sc (.int .i64 x9.2) ∧ t 19 = .sc (.int .i64 x12.1) ∧ t 101 = .sc (.bool false) ∧ t 107 = .sc (.bool ((x7.2 == 0) && (x12.2 == 0)))) (fun J5 hJ5 => ?_) ?_
          · rcases Bool.eq_false_or_eq_true (x7.2 == 0) with hb5 | hb5
            · rw [hb5] at f104
              refine Stk.run 3 (fun t H n => t 0 = .ssl (encs c97 a0) a0.length false ∧ t 2 = .ssl (encs c2 a2) a2.length false ∧ t 3 = .sc (.int .i64 a3) ∧ t 9 = .sc (.int .i64 x5.1) ∧ t 11 = .sc (.int .i64 x6.1) ∧ t 15 = .ssl (encs c97 x8.1) x8.1.length false ∧ t 16 = .sc (.int .i64 x8.2) ∧ t 17 = .ssl (encs c97 x9.1) x9.1.length false ∧ t 18 = .sc (.int .i64 x9.2) ∧ t 19 = .sc (.int .i64 x12.1) ∧ t 101 = .sc (.bool false) ∧ t 107 = .sc (.bool (x12.2 == 0))) (fun J hJ => ?_) ?_
              · simp [-splice, f0, f2, f3, f9, f11, f15, f16, f17, f18, f19, f20, f101, f104]
                exact hJ _ _ _ ⟨by simp [f0], by simp [f2], by simp [f3], by simp [f9], by simp [f11], by simp [f15], by simp [f16], by simp [f17], by simp [f18], by simp [f19], by simp [f101], by simp [-splice, f0, f2, f3, f9, f11, f15, f16, f17, f18, f19, f20, f101, f104]⟩
              clear f0 f2 f3 f9 f11 f15 f16 f17 f18 f19 f20 f101 f104
              rintro t H n ⟨f0, f2, f3, f9, f11, f15, f16, f17, f18, f19, f101, f107⟩
              refine Stk.on ?_
              exact Stk.ln 0 (by decide) (hJ5 _ _ _ ⟨f0, f2, f3, f9, f11, f15, f16, f17, f18, f19, f101, f107.trans (congrArg (fun q => AV.sc (.bool q)) (by rw [hb5]; rfl))⟩)
            · rw [hb5] at f104
              refine Stk.run 3 (fun t H n => t 0 = .ssl (encs c97 a0) a0.length false ∧ t 2 = .ssl (encs c2 a2) a2.length false ∧ t 3 = .sc (.int .i64 a3) ∧ t 9 = .sc (.int .i64 x5.1) ∧ t 11 = .sc (.int .i64 x6.1) ∧ t 15 = .ssl (encs c97 x8.1) x8.1.length false ∧ t 16 = .sc (.int .i64 x8.2) ∧ t 17 = .ssl (encs c97 x9.1) x9.1.length false ∧ t 18 = .sc (.int .i64 x9.2) ∧ t 19 = .sc (.int .i64 x12.1) ∧ t 101 = .sc (.bool false) ∧ t 107 = .sc (.bool false)) (fun J hJ => ?_) ?_
              · simp [-splice, f0, f2, f3, f9, f11, f15, f16, f17, f18, f19, f20, f101, f104]
                exact hJ _ _ _ ⟨by simp [f0], by simp [f2], by simp [f3], by simp [f9], by simp [f11], by simp [f15], by simp [f16], by simp [f17], by simp [f18], by simp [f19], by simp [f101], by simp [-splice, f0, f2, f3, f9, f11, f15, f16, f17, f18, f19, f20, f101, f104]⟩
              clear f0 f2 f3 f9 f11 f15 f16 f17 f18 f19 f20 f101 f104
              rintro t H n ⟨f0, f2, f3, f9, f11, f15, f16, f17, f18, f19, f101, f107⟩
              refine Stk.on ?_
              exact Stk.ln 0 (by decide) (hJ5 _ _ _ ⟨f0, f2, f3, f9, f11, f15, f16, f17, f18, f19, f101, f107.trans (congrArg (fun q => AV.sc (.bool q)) (by rw [hb5]; rfl))⟩)
          clear f0 f2 f3 f9 f11 f15 f16 f17 f18 f19 f20 f101 f104
          rintro t H n ⟨f0, f2, f3, f9, f11, f15, f16, f17, f18, f19, f101, f107⟩
          refine Stk.run 1 (fun t H n => t 0 = .ssl (encs c97 a0) a0.length false ∧ t 2 = .ssl (encs c2 a2) a2.length false ∧ t 3 = .sc (.int .i64 a3) ∧ t 9 = .sc (.int .i64 x5.1) ∧ t 11 = .sc (.int .i64 x6.1) ∧ t 15 = .ssl (encs c97 x8.1) x8.1.length false ∧ t 16 = .sc (.int .i64 x8.2) ∧ t 17 = .ssl (encs c97 x9.1) x9.1.length false ∧ t 18 = .sc (.int .i64 x9.2) ∧ t 19 = .sc (.int .i64 x12.1) ∧ t 101 = .sc (.bool false) ∧ t 108 = .sc (.bool ((x7.2 == 0) && (x12.2 == 0)))) (fun J hJ => ?_) ?_
          · simp [-splice, f0, f2, f3, f9, f11, f15, f16, f17, f18, f19, f101, f107]
            exact hJ _ _ _ ⟨by simp [f0], by simp [f2], by simp [f3], by simp [f9], by simp [f11], by simp [f15], by simp [f16], by simp [f17], by simp [f18], by simp [f19], by simp [f101], by simp [-splice, f0, f2, f3, f9, f11, f15, f16, f17, f18, f19, f101, f107]⟩
          clear f0 f2 f3 f9 f11 f15 f16 f17 f18 f19 f101 f107
          rintro t H n ⟨f0, f2, f3, f9, f11, f15, f16, f17, f18, f19, f101, f108⟩
          refine Stk.jo 6 (fun t H n => t 0 = .ssl (encs c97 a0) a0.length false ∧ t 2 = .ssl (encs c2 a2) a2.length false ∧ t 3 = .sc (.int .i64 a3) ∧ t 9 = .sc (.int .i64 x5.1) ∧ t 11 = .sc (.int .i64 x6.1) ∧ t 15 = .ssl (encs c97 x8.1) x8.1.length false ∧ t 16 = .sc (.int .i64 x8.2) ∧ t 17 = .ssl (encs c97 x9.1) x9.1.length false ∧ t 18 = .sc (.int .i64 x9.2) ∧ t 101 = .sc (.bool false) ∧ t 114 = .sc (.bool (((x7.2 == 0) && (x12.2 == 0)) && (x12.1 != (IntKind.i64.wrap (x5.1 + x6.1)))))) (fun J6 hJ6 => ?_) ?_
          · rcases Bool.eq_false_or_eq_true ((x7.2 == 0) && (x12.2 == 0)) with hb6 | hb6
            · rw [hb6] at f108
              refine Stk.run 6 (fun t H n => t 0 = .ssl (encs c97 a0) a0.length false ∧ t 2 = .ssl (encs c2 a2) a2.length false ∧ t 3 = .sc (.int .i64 a3) ∧ t 9 = .sc (.int .i64 x5.1) ∧ t 11 = .sc (.int .i64 x6.1) ∧ t 15 = .ssl (encs c97 x8.1) x8.1.length false ∧ t 16 = .sc (.int .i64 x8.2) ∧ t 17 = .ssl (encs c97 x9.1) x9.1.length false ∧ t 18 = .sc (.int .i64 x9.2) ∧ t 101 = .sc (.bool false) ∧ t 114 = .sc (.bool (x12.1 != (IntKind.i64.wrap (x5.1 + x6.1))))) (fun J hJ => ?_) ?_
              · simp [-splice, f0, f2, f3, f9, f11, f15, f16, f17, f18, f19, f101, f108]
                exact hJ _ _ _ ⟨by simp [f0], by simp [f2], by simp [f3], by simp [f9], by simp [f11], by simp [f15], by simp [f16], by simp [f17], by simp [f18], by simp [f101], by simp [-splice, f0, f2, f3, f9, f11, f15, f16, f17, f18, f19, f101, f108]⟩
              clear f0 f2 f3 f9 f11 f15 f16 f17 f18 f19 f101 f108
              rintro t H n ⟨f0, f2, f3, f9, f11, f15, f16, f17, f18, f101, f114⟩
              refine Stk.on ?_
              exact Stk.ln 0 (by decide) (hJ6 _ _ _ ⟨f0, f2, f3, f9, f11, f15, f16, f17, f18, f101, f114.trans (congrArg (fun q => AV.sc (.bool q)) (by rw [hb6]; rfl))⟩)
            · rw [hb6] at f108
              refine Stk.run 6 (fun t H n => t 0 = .ssl (encs c97 a0) a0.length false ∧ t 2 = .ssl (encs c2 a2) a2.length false ∧ t 3 = .sc (.int .i64 a3) ∧ t 9 = .sc (.int .i64 x5.1) ∧ t 11 = .sc (.int .i64 x6.1) ∧ t 15 = .ssl (encs c97 x8.1) x8.1.length false ∧ t 16 = .sc (.int .i64 x8.2) ∧ t 17 = .ssl (encs c97 x9.1) x9.1.length false ∧ t 18 = .sc (.int .i64 x9.2) ∧ t 101 = .sc (.bool false) ∧ t 114 = .sc (.bool false)) (fun J hJ => ?_) ?_
              · simp [-splice, f0, f2, f3, f9, f11, f15, f16, f17, f18, f19, f101, f108]
                exact hJ _ _ _ ⟨by simp [f0], by simp [f2], by simp [f3], by simp [f9], by simp [f11], by simp [f15], by simp [f16], by simp [f17], by simp [f18], by simp [f101], by simp [-splice, f0, f2, f3, f9, f11, f15, f16, f17, f18, f19, f101, f108]⟩
              clear f0 f2 f3 f9 f11 f15 f16 f17 f18 f19 f101 f108
              rintro t H n ⟨f0, f2, f3, f9, f11, f15, f16, f17, f18, f101, f114⟩
              refine Stk.on ?_
              exact Stk.ln 0 (by decide) (hJ6 _ _ _ ⟨f0, f2, f3, f9, f11, f15, f16, f17, f18, f101, f114.trans (congrArg (fun q => AV.sc (.bool q)) (by rw [hb6]; rfl))⟩)
          clear f0 f2 f3 f9 f11 f15 f16 f17 f18 f19 f101 f108
          rintro t H n ⟨f0, f2, f3, f9, f11, f15, f16, f17, f18, f101, f114⟩
          refine Stk.run 1 (fun t H n => t 0 = .ssl (encs c97 a0) a0.length false ∧ t 2 = .ssl (encs c2 a2) a2.length false ∧ t 3 = .sc (.int .i64 a3) ∧ t 9 = .sc (.int .i64 x5.1) ∧ t 11 = .sc (.int .i64 x6.1) ∧ t 15 = .ssl (encs c97 x8.1) x8.1.length false ∧ t 16 = .sc (.int .i64 x8.2) ∧ t 17 = .ssl (encs c97 x9.1) x9.1.length false ∧ t 18 = .sc (.int .i64 x9.2) ∧ t 115 = .sc (.bool (((x7.2 == 0) && (x12.2 == 0)) && (x12.1 != (IntKind.i64.wrap (x5.1 + x6.1)))))) (fun J hJ => ?_) ?_
          · simp [-splice, f0, f2, f3, f9, f11, f15, f16, f17, f18, f101, f114]
            exact hJ _ _ _ ⟨by simp [f0], by simp [f2], by simp [f3], by simp [f9], by simp [f11], by simp [f15], by simp [f16], by simp [f17], by simp [f18], by simp [-splice, f0, f2, f3, f9, f11, f15, f16, f17, f18, f101, f114]⟩
          clear f0 f2 f3 f9 f11 f15 f16 f17 f18 f101 f114
          rintro t H n ⟨f0, f2, f3, f9, f11, f15, f16, f17, f18, f115⟩
          refine Stk.on ?_
          exact Stk.ln 0 (by decide) (hJ4 _ _ _ ⟨f0, f2, f3, f9, f11, f15, f16, f17, f18, f115.trans (congrArg (fun q => AV.sc (.bool q)) (by rw [hb4]; rfl))⟩)
      clear f0 f2 f3 f9 f11 f14 f15 f16 f17 f18 f19 f20 f101
      rintro t H n ⟨f0, f2, f3, f9, f11, f15, f16, f17, f18, f115⟩
      refine Stk.on ?_
      refine Stk.cond (((x7.2 == 0) && (!((x12.2 == 0) == (decide ((IntKind.i64.wrap (x5.1 + x6.1)) ≤ 1099511627776))))) || (((x7.2 == 0) && (x12.2 == 0)) && (x12.1 != (IntKind.i64.wrap (x5.1 + x6.1))))) (by exact f115) (fun hb13 => ?_) (fun hb13 => ?_)
      · have h := cT hb13 h
        refine Stk.sq ?_
        refine Stk.rg ?_
        refine Stk.run 1 (fun t H n => t 8 = .sc (.bool false)) (fun J hJ => ?_) ?_
        · simp [-splice, f0, f2, f3, f9, f11, f15, f16, f17, f18, f115]
          exact hJ _ _ _ (by simp [-splice, f0, f2, f3, f9, f11, f15, f16, f17, f18, f115])
        clear f0 f2 f3 f9 f11 f15 f16 f17 f18 f115
        rintro t H n f8
        refine Stk.on ?_
        refine Stk.rt ?_
        have hq := Option.some.inj h; subst hq
        exact (hr _ _ _ (.sc (.bool false)) ([]) (by simp [f8]) (.inr (.inr (.free (rfl))))).1
      · have h := cF hb13 h
        refine Stk.sk ?_
        refine Stk.sq ?_
        refine Stk.sq ?_
        refine Stk.rg ?_
        refine Stk.run 2 (fun t H n => t 0 = .ssl (encs c97 a0) a0.length false ∧ t 2 = .ssl (encs c2 a2) a2.length false ∧ t 3 = .sc (.int .i64 a3) ∧ t 9 = .sc (.int .i64 x5.1) ∧ t 11 = .sc (.int .i64 x6.1) ∧ t 16 = .sc (.int .i64 x8.2) ∧ t 17 = .ssl (encs c97 x9.1) x9.1.length false ∧ t 18 = .sc (.int .i64 x9.2) ∧ t 117 = .ssl (encs c97 x8.1) x8.1.length false ∧ t 118 = .ssl (encs c2 a2) a2.length false) (fun J hJ => ?_) ?_
        · simp [-splice, f0, f2, f3, f9, f11, f15, f16, f17, f18, f115]
          exact hJ _ _ _ ⟨by simp [f0], by simp [f2], by simp [f3], by simp [f9], by simp [f11], by simp [f16], by simp [f17], by simp [f18], by simp [-splice, f0, f2, f3, f9, f11, f15, f16, f17, f18, f115], by simp [-splice, f0, f2, f3, f9, f11, f15, f16, f17, f18, f115]⟩
        clear f0 f2 f3 f9 f11 f15 f16 f17 f18 f115
        rintro t H n ⟨f0, f2, f3, f9, f11, f16, f17, f18, f117, f118⟩
        obtain ⟨x14, hx14, h⟩ := bnd h
        refine Stk.cv (g := 25) (args := [.ssl (encs c97 x8.1) x8.1.length false, .ssl (encs c2 a2) a2.length false]) (args' := [.ssl (encs c97 x8.1) x8.1.length false, .ssl (encs c2 a2) a2.length false]) (v := .tup [.sc (.int .i64 x14.1), .sc (.int .i64 x14.2)]) [] (ok_poly_At F _ _ _ hx14) (by simp [f0, f2, f3, f9, f11, f16, f17, f18, f117, f118]) rfl rfl (by simp [f0, f2, f3, f9, f11, f16, f17, f18, f117, f118]) (.cons (.free (freeL_encs fr97 _)) (.cons (.free (freeL_encs fr2 _)) (.nil))) (.inl ⟨rfl, by simp [free, freeL]⟩) (fun t' ht' => ?_)
        refine Stk.gen (fun t H n => t 0 = .ssl (encs c97 a0) a0.length false ∧ t 2 = .ssl (encs c2 a2) a2.length false ∧ t 3 = .sc (.int .i64 a3) ∧ t 9 = .sc (.int .i64 x5.1) ∧ t 11 = .sc (.int .i64 x6.1) ∧ t 16 = .sc (.int .i64 x8.2) ∧ t 17 = .ssl (encs c97 x9.1) x9.1.length false ∧ t 18 = .sc (.int .i64 x9.2) ∧ t 119 = .tup [.sc (.int .i64 x14.1), .sc (.int .i64 x14.2)]) ⟨by simp [ht', f0], by simp [ht', f2], by simp [ht', f3], by simp [ht', f9], by simp [ht', f11], by simp [ht', f16], by simp [ht', f17], by simp [ht', f18], by simp [ht']⟩ ?_
        clear f0 f2 f3 f9 f11 f16 f17 f18 f117 f118 ht' t'
        rintro t H n ⟨f0, f2, f3, f9, f11, f16, f17, f18, f119⟩
        refine Stk.run 5 (fun t H n => t 0 = .ssl (encs c97 a0) a0.length false ∧ t 2 = .ssl (encs c2 a2) a2.length false ∧ t 3 = .sc (.int .i64 a3) ∧ t 9 = .sc (.int .i64 x5.1) ∧ t 11 = .sc (.int .i64 x6.1) ∧ t 16 = .sc (.int .i64 x8.2) ∧ t 17 = .ssl (encs c97 x9.1) x9.1.length false ∧ t 18 = .sc (.int .i64 x9.2) ∧ t 21 = .sc (.int .i64 x14.1) ∧ t 22 = .sc (.int .i64 x14.2)) (fun J hJ => ?_) ?_
        · simp [-splice, f0, f2, f3, f9, f11, f16, f17, f18, f119]
          exact hJ _ _ _ ⟨by simp [f0], by simp [f2], by simp [f3], by simp [f9], by simp [f11], by simp [f16], by simp [f17], by simp [f18], by simp [-splice, f0, f2, f3, f9, f11, f16, f17, f18, f119], by simp [-splice, f0, f2, f3, f9, f11, f16, f17, f18, f119]⟩
        clear f0 f2 f3 f9 f11 f16 f17 f18 f119
        rintro t H n ⟨f0, f2, f3, f9, f11, f16, f17, f18, f21, f22⟩
        refine Stk.on ?_
        refine Stk.sq ?_
        refine Stk.rg ?_
        refine Stk.run 3 (fun t H n => t 0 = .ssl (encs c97 a0) a0.length false ∧ t 2 = .ssl (encs c2 a2) a2.length false ∧ t 3 = .sc (.int .i64 a3) ∧ t 9 = .sc (.int .i64 x5.1) ∧ t 11 = .sc (.int .i64 x6.1) ∧ t 17 = .ssl (encs c97 x9.1) x9.1.length false ∧ t 18 = .sc (.int .i64 x9.2) ∧ t 21 = .sc (.int .i64 x14.1) ∧ t 22 = .sc (.int .i64 x14.2) ∧ t 124 = .sc (.bool (x8.2 == 0))) (fun J hJ => ?_) ?_
        · simp [-splice, f0, f2, f3, f9, f11, f16, f17, f18, f21, f22]
          exact hJ _ _ _ ⟨by simp [f0], by simp [f2], by simp [f3], by simp [f9], by simp [f11], by simp [f17], by simp [f18], by simp [f21], by simp [f22], by simp [-splice, f0, f2, f3, f9, f11, f16, f17, f18, f21, f22]⟩
        clear f0 f2 f3 f9 f11 f16 f17 f18 f21 f22
        rintro t H n ⟨f0, f2, f3, f9, f11, f17, f18, f21, f22, f124⟩
        refine Stk.jo 3 (fun t H n => t 0 = .ssl (encs c97 a0) a0.length false ∧ t 2 = .ssl (encs c2 a2) a2.length false ∧ t 3 = .sc (.int .i64 a3) ∧ t 9 = .sc (.int .i64 x5.1) ∧ t 11 = .sc (.int .i64 x6.1) ∧ t 17 = .ssl (encs c97 x9.1) x9.1.length false ∧ t 18 = .sc (.int .i64 x9.2) ∧ t 21 = .sc (.int .i64 x14.1) ∧ t 127 = .sc (.bool ((x8.2 == 0) && (x14.2 == 0)))) (fun J7 hJ7 => ?_) ?_
        · rcases Bool.eq_false_or_eq_true (x8.2 == 0) with hb7 | hb7
          · rw [hb7] at f124
            refine Stk.run 3 (fun t H n => t 0 = .ssl (encs c97 a0) a0.length false ∧ t 2 = .ssl (encs c2 a2) a2.length false ∧ t 3 = .sc (.int .i64 a3) ∧ t 9 = .sc (.int .i64 x5.1) ∧ t 11 = .sc (.int .i64 x6.1) ∧ t 17 = .ssl (encs c97 x9.1) x9.1.length false ∧ t 18 = .sc (.int .i64 x9.2) ∧ t 21 = .sc (.int .i64 x14.1) ∧ t 127 = .sc (.bool (x14.2 == 0))) (fun J hJ => ?_) ?_
            · simp [-splice, f0, f2, f3, f9, f11, f17, f18, f21, f22, f124]
              exact hJ _ _ _ ⟨by simp [f0], by simp [f2], by simp [f3], by simp [f9], by simp [f11], by simp [f17], by simp [f18], by simp [f21], by simp [-splice, f0, f2, f3, f9, f11, f17, f18, f21, f22, f124]⟩
            clear f0 f2 f3 f9 f11 f17 f18 f21 f22 f124
            rintro t H n ⟨f0, f2, f3, f9, f11, f17, f18, f21, f127⟩
            refine Stk.on ?_
            exact Stk.ln 0 (by decide) (hJ7 _ _ _ ⟨f0, f2, f3, f9, f11, f17, f18, f21, f127.trans (congrArg (fun q => AV.sc (.bool q)) (by rw [hb7]; rfl))⟩)
          · rw [hb7] at f124
            refine Stk.run 3 (fun t H n => t 0 = .ssl (encs c97 a0) a0.length false ∧ t 2 = .ssl (encs c2 a2) a2.length false ∧ t 3 = .sc (.int .i64 a3) ∧ t 9 = .sc (.int .i64 x5.1) ∧ t 11 = .sc (.int .i64 x6.1) ∧ t 17 = .ssl (encs c97 x9.1) x9.1.length false ∧ t 18 = .sc (.int .i64 x9.2) ∧ t 21 = .sc (.int .i64 x14.1) ∧ t 127 = .sc (.bool false)) (fun J hJ => ?_) ?_
            · simp [-splice, f0, f2, f3, f9, f11, f17, f18, f21, f22, f124]
              exact hJ _ _ _ ⟨by simp [f0], by simp [f2], by simp [f3], by simp [f9], by simp [f11], by simp [f17], by simp [f18], by simp [f21], by simp [-splice, f0, f2, f3, f9, f11, f17, f18, f21, f22, f124]⟩
            clear f0 f2 f3 f9 f11 f17 f18 f21 f22 f124
            rintro t H n ⟨f0, f2, f3, f9, f11, f17, f18, f21, f127⟩
            refine Stk.on ?_
            exact Stk.ln 0 (by decide) (hJ7 _ _ _ ⟨f0, f2, f3, f9, f11, f17, f18, f21, f127.trans (congrArg (fun q => AV.sc (.bool q)) (by rw [hb7]; rfl))⟩)
        clear f0 f2 f3 f9 f11 f17 f18 f21 f22 f124
        rintro t H n ⟨f0, f2, f3, f9, f11, f17, f18, f21, f127⟩
        refine Stk.run 1 (fun t H n => t 0 = .ssl (encs c97 a0) a0.length false ∧ t 2 = .ssl (encs c2 a2) a2.length false ∧ t 3 = .sc (.int .i64 a3) ∧ t 9 = .sc (.int .i64 x5.1) ∧ t 11 = .sc (.int .i64 x6.1) ∧ t 17 = .ssl (encs c97 x9.1) x9.1.length false ∧ t 18 = .sc (.int .i64 x9.2) ∧ t 21 = .sc (.int .i64 x14.1) ∧ t 128 = .sc (.bool ((x8.2 == 0) && (x14.2 == 0)))) (fun J hJ => ?_) ?_
        · simp [-splice, f0, f2, f3, f9, f11, f17, f18, f21, f127]
          exact hJ _ _ _ ⟨by simp [f0], by simp [f2], by simp [f3], by simp [f9], by simp [f11], by simp [f17], by simp [f18], by simp [f21], by simp [-splice, f0, f2, f3, f9, f11, f17, f18, f21, f127]⟩
        clear f0 f2 f3 f9 f11 f17 f18 f21 f127
        rintro t H n ⟨f0, f2, f3, f9, f11, f17, f18, f21, f128⟩
        obtain ⟨K8, hK8, h⟩ := jnd h
        refine Stk.jo 6 (fun t H n => ∃ v15 : Bool, K8 v15 = some r ∧ t 0 = .ssl (encs c97 a0) a0.length false ∧ t 2 = .ssl (encs c2 a2) a2.length false ∧ t 3 = .sc (.int .i64 a3) ∧ t 9 = .sc (.int .i64 x5.1) ∧ t 11 = .sc (.int .i64 x6.1) ∧ t 17 = .ssl (encs c97 x9.1) x9.1.length false ∧ t 18 = .sc (.int .i64 x9.2) ∧ t 134 = .sc (.bool v15)) (fun J8 hJ8 => ?_) ?_
        · rcases Bool.eq_false_or_eq_true ((x8.2 == 0) && (x14.2 == 0)) with hb8 | hb8
          · rw [hb8] at f128
            replace h := cT hb8 h
            refine Stk.run 3 (fun t H n => t 0 = .ssl (encs c97 a0) a0.length false ∧ t 2 = .ssl (encs c2 a2) a2.length false ∧ t 3 = .sc (.int .i64 a3) ∧ t 9 = .sc (.int .i64 x5.1) ∧ t 11 = .sc (.int .i64 x6.1) ∧ t 17 = .ssl (encs c97 x9.1) x9.1.length false ∧ t 18 = .sc (.int .i64 x9.2) ∧ t 128 = .sc (.bool true) ∧ t 129 = .sc (.int .i64 x14.1) ∧ t 130 = .sc (.int .i64 x5.1) ∧ t 131 = .sc (.int .i64 x6.1)) (fun J hJ => ?_) ?_
            · simp [-splice, f0, f2, f3, f9, f11, f17, f18, f21, f128]
              exact hJ _ _ _ ⟨by simp [f0], by simp [f2], by simp [f3], by simp [f9], by simp [f11], by simp [f17], by simp [f18], by simp [f128], by simp [-splice, f0, f2, f3, f9, f11, f17, f18, f21, f128], by simp [-splice, f0, f2, f3, f9, f11, f17, f18, f21, f128], by simp [-splice, f0, f2, f3, f9, f11, f17, f18, f21, f128]⟩
            clear f0 f2 f3 f9 f11 f17 f18 f21 f128
            rintro t H n ⟨f0, f2, f3, f9, f11, f17, f18, f128, f129, f130, f131⟩
            obtain ⟨x16, hx16, h⟩ := bnd h
            refine Stk.cv (g := 41) (args := [.sc (.int .i64 x5.1), .sc (.int .i64 x6.1)]) (args' := [.sc (.int .i64 x5.1), .sc (.int .i64 x6.1)]) (v := .sc (.int .i64 x16)) [] (ok_L13_product F _ _ _ hx16) (by simp [f0, f2, f3, f9, f11, f17, f18, f128, f129, f130, f131]) rfl rfl (by simp [f0, f2, f3, f9, f11, f17, f18, f128, f129, f130, f131]) (.cons (.free (rfl)) (.cons (.free (rfl)) (.nil))) (.inl ⟨rfl, rfl⟩) (fun t' ht' => ?_)
            refine Stk.gen (fun t H n => t 0 = .ssl (encs c97 a0) a0.length false ∧ t 2 = .ssl (encs c2 a2) a2.length false ∧ t 3 = .sc (.int .i64 a3) ∧ t 9 = .sc (.int .i64 x5.1) ∧ t 11 = .sc (.int .i64 x6.1) ∧ t 17 = .ssl (encs c97 x9.1) x9.1.length false ∧ t 18 = .sc (.int .i64 x9.2) ∧ t 128 = .sc (.bool true) ∧ t 129 = .sc (.int .i64 x14.1) ∧ t 132 = .sc (.int .i64 x16)) ⟨by simp [ht', f0], by simp [ht', f2], by simp [ht', f3], by simp [ht', f9], by simp [ht', f11], by simp [ht', f17], by simp [ht', f18], by simp [ht', f128], by simp [ht', f129], by simp [ht']⟩ ?_
            clear f0 f2 f3 f9 f11 f17 f18 f128 f129 f130 f131 ht' t'
            rintro t H n ⟨f0, f2, f3, f9, f11, f17, f18, f128, f129, f132⟩
            refine Stk.run 2 (fun t H n => t 0 = .ssl (encs c97 a0) a0.length false ∧ t 2 = .ssl (encs c2 a2) a2.length false ∧ t 3 = .sc (.int .i64 a3) ∧ t 9 = .sc (.int .i64 x5.1) ∧ t 11 = .sc (.int .i64 x6.1) ∧ t 17 = .ssl (encs c97 x9.1) x9.1.length false ∧ t 18 = .sc (.int .i64 x9.2) ∧ t 134 = .sc (.bool (x14.1 != x16))) (fun J hJ => ?_) ?_
            · simp [-splice, f0, f2, f3, f9, f11, f17, f18, f128, f129, f132]
              exact hJ _ _ _ ⟨by simp [f0], by simp [f2], by simp [f3], by simp [f9], by simp [f11], by simp [f17], by simp [f18], by simp [-splice, f0, f2, f3, f9, f11, f17, f18, f128, f129, f132]⟩
            clear f0 f2 f3 f9 f11 f17 f18 f128 f129 f132
            rintro t H n ⟨f0, f2, f3, f9, f11, f17, f18, f134⟩
            refine Stk.on ?_
            exact Stk.ln 0 (by decide) (hJ8 _ _ _ ⟨(x14.1 != x16), h, f0, f2, f3, f9, f11, f17, f18, f134⟩)
          · rw [hb8] at f128
            replace h := cF hb8 h
            refine Stk.run 6 (fun t H n => t 0 = .ssl (encs c97 a0) a0.length false ∧ t 2 = .ssl (encs c2 a2) a2.length false ∧ t 3 = .sc (.int .i64 a3) ∧ t 9 = .sc (.int .i64 x5.1) ∧ t 11 = .sc (.int .i64 x6.1) ∧ t 17 = .ssl (encs c97 x9.1) x9.1.length false ∧ t 18 = .sc (.int .i64 x9.2) ∧ t 134 = .sc (.bool false)) (fun J hJ => ?_) ?_
            · simp [-splice, f0, f2, f3, f9, f11, f17, f18, f21, f128]
              exact hJ _ _ _ ⟨by simp [f0], by simp [f2], by simp [f3], by simp [f9], by simp [f11], by simp [f17], by simp [f18], by simp [-splice, f0, f2, f3, f9, f11, f17, f18, f21, f128]⟩
            clear f0 f2 f3 f9 f11 f17 f18 f21 f128
            rintro t H n ⟨f0, f2, f3, f9, f11, f17, f18, f134⟩
            refine Stk.on ?_
            exact Stk.ln 0 (by decide) (hJ8 _ _ _ ⟨false, h, f0, f2, f3, f9, f11, f17, f18, f134⟩)
        clear h f0 f2 f3 f9 f11 f17 f18 f21 f128
        rintro t H n ⟨v15, h, f0, f2, f3, f9, f11, f17, f18, f134⟩
        subst hK8
        refine Stk.on ?_
        refine Stk.cond v15 (by exact f134) (fun hb17 => ?_) (fun hb17 => ?_)
        · have h := cT hb17 h
          refine Stk.sq ?_
          refine Stk.rg ?_
          refine Stk.run 1 (fun t H n => t 8 = .sc (.bool false)) (fun J hJ => ?_) ?_
          · simp [-splice, f0, f2, f3, f9, f11, f17, f18, f134]
            exact hJ _ _ _ (by simp [-splice, f0, f2, f3, f9, f11, f17, f18, f134])
          clear f0 f2 f3 f9 f11 f17 f18 f134
          rintro t H n f8
          refine Stk.on ?_
          refine Stk.rt ?_
          have hq := Option.some.inj h; subst hq
          exact (hr _ _ _ (.sc (.bool false)) ([]) (by simp [f8]) (.inr (.inr (.free (rfl))))).1
        · have h := cF hb17 h
          refine Stk.sk ?_
          refine Stk.sq ?_
          refine Stk.sq ?_
          refine Stk.rg ?_
          refine Stk.run 2 (fun t H n => t 0 = .ssl (encs c97 a0) a0.length false ∧ t 3 = .sc (.int .i64 a3) ∧ t 9 = .sc (.int .i64 x5.1) ∧ t 11 = .sc (.int .i64 x6.1) ∧ t 18 = .sc (.int .i64 x9.2) ∧ t 136 = .ssl (encs c97 x9.1) x9.1.length false ∧ t 137 = .ssl (encs c2 a2) a2.length false) (fun J hJ => ?_) ?_
          · simp [-splice, f0, f2, f3, f9, f11, f17, f18, f134]
            exact hJ _ _ _ ⟨by simp [f0], by simp [f3], by simp [f9], by simp [f11], by simp [f18], by simp [-splice, f0, f2, f3, f9, f11, f17, f18, f134], by simp [-splice, f0, f2, f3, f9, f11, f17, f18, f134]⟩
          clear f0 f2 f3 f9 f11 f17 f18 f134
          rintro t H n ⟨f0, f3, f9, f11, f18, f136, f137⟩
          obtain ⟨x18, hx18, h⟩ := bnd h
          refine Stk.cv (g := 25) (args := [.ssl (encs c97 x9.1) x9.1.length false, .ssl (encs c2 a2) a2.length false]) (args' := [.ssl (encs c97 x9.1) x9.1.length false, .ssl (encs c2 a2) a2.length false]) (v := .tup [.sc (.int .i64 x18.1), .sc (.int .i64 x18.2)]) [] (ok_poly_At F _ _ _ hx18) (by simp [f0, f3, f9, f11, f18, f136, f137]) rfl rfl (by simp [f0, f3, f9, f11, f18, f136, f137]) (.cons (.free (freeL_encs fr97 _)) (.cons (.free (freeL_encs fr2 _)) (.nil))) (.inl ⟨rfl, by simp [free, freeL]⟩) (fun t' ht' => ?_)
          refine Stk.gen (fun t H n => t 0 = .ssl (encs c97 a0) a0.length false ∧ t 3 = .sc (.int .i64 a3) ∧ t 9 = .sc (.int .i64 x5.1) ∧ t 11 = .sc (.int .i64 x6.1) ∧ t 18 = .sc (.int .i64 x9.2) ∧ t 138 = .tup [.sc (.int .i64 x18.1), .sc (.int .i64 x18.2)]) ⟨by simp [ht', f0], by simp [ht', f3], by simp [ht', f9], by simp [ht', f11], by simp [ht', f18], by simp [ht']⟩ ?_
          clear f0 f3 f9 f11 f18 f136 f137 ht' t'
          rintro t H n ⟨f0, f3, f9, f11, f18, f138⟩
          refine Stk.run 5 (fun t H n => t 0 = .ssl (encs c97 a0) a0.length false ∧ t 3 = .sc (.int .i64 a3) ∧ t 9 = .sc (.int .i64 x5.1) ∧ t 11 = .sc (.int .i64 x6.1) ∧ t 18 = .sc (.int .i64 x9.2) ∧ t 23 = .sc (.int .i64 x18.1) ∧ t 24 = .sc (.int .i64 x18.2)) (fun J hJ => ?_) ?_
          · simp [-splice, f0, f3, f9, f11, f18, f138]
            exact hJ _ _ _ ⟨by simp [f0], by simp [f3], by simp [f9], by simp [f11], by simp [f18], by simp [-splice, f0, f3, f9, f11, f18, f138], by simp [-splice, f0, f3, f9, f11, f18, f138]⟩
          clear f0 f3 f9 f11 f18 f138
          rintro t H n ⟨f0, f3, f9, f11, f18, f23, f24⟩
          refine Stk.on ?_
          refine Stk.sq ?_
          refine Stk.rg ?_
          refine Stk.run 3 (fun t H n => t 0 = .ssl (encs c97 a0) a0.length false ∧ t 3 = .sc (.int .i64 a3) ∧ t 9 = .sc (.int .i64 x5.1) ∧ t 11 = .sc (.int .i64 x6.1) ∧ t 23 = .sc (.int .i64 x18.1) ∧ t 24 = .sc (.int .i64 x18.2) ∧ t 143 = .sc (.bool (x9.2 == 0))) (fun J hJ => ?_) ?_
          · simp [-splice, f0, f3, f9, f11, f18, f23, f24]
            exact hJ _ _ _ ⟨by simp [f0], by simp [f3], by simp [f9], by simp [f11], by simp [f23], by simp [f24], by simp [-splice, f0, f3, f9, f11, f18, f23, f24]⟩
          clear f0 f3 f9 f11 f18 f23 f24
          rintro t H n ⟨f0, f3, f9, f11, f23, f24, f143⟩
          refine Stk.jo 3 (fun t H n => t 0 = .ssl (encs c97 a0) a0.length false ∧ t 3 = .sc (.int .i64 a3) ∧ t 9 = .sc (.int .i64 x5.1) ∧ t 11 = .sc (.int .i64 x6.1) ∧ t 23 = .sc (.int .i64 x18.1) ∧ t 146 = .sc (.bool ((x9.2 == 0) && (x18.2 == 0)))) (fun J9 hJ9 => ?_) ?_
          · rcases Bool.eq_false_or_eq_true (x9.2 == 0) with hb9 | hb9
            · rw [hb9] at f143
              refine Stk.run 3 (fun t H n => t 0 = .ssl (encs c97 a0) a0.length false ∧ t 3 = .sc (.int .i64 a3) ∧ t 9 = .sc (.int .i64 x5.1) ∧ t 11 = .sc (.int .i64 x6.1) ∧ t 23 = .sc (.int .i64 x18.1) ∧ t 146 = .sc (.bool (x18.2 == 0))) (fun J hJ => ?_) ?_
              · simp [-splice, f0, f3, f9, f11, f23, f24, f143]
                exact hJ _ _ _ ⟨by simp [f0], by simp [f3], by simp [f9], by simp [f11], by simp [f23], by simp [-splice, f0, f3, f9, f11, f23, f24, f143]⟩
              clear f0 f3 f9 f11 f23 f24 f143
              rintro t H n ⟨f0, f3, f9, f11, f23, f146⟩
              refine Stk.on ?_
              exact Stk.ln 0 (by decide) (hJ9 _ _ _ ⟨f0, f3, f9, f11, f23, f146.trans (congrArg (fun q => AV.sc (.bool q)) (by rw [hb9]; rfl))⟩)
            · rw [hb9] at f143
              refine Stk.run 3 (fun t H n => t 0 = .ssl (encs c97 a0) a0.length false ∧ t 3 = .sc (.int .i64 a3) ∧ t 9 = .sc (.int .i64 x5.1) ∧ t 11 = .sc (.int .i64 x6.1) ∧ t 23 = .sc (.int .i64 x18.1) ∧ t 146 = .sc (.bool false)) (fun J hJ => ?_) ?_
              · simp [-splice, f0, f3, f9, f11, f23, f24, f143]
                exact hJ _ _ _ ⟨by simp [f0], by simp [f3], by simp [f9], by simp [f11], by simp [f23], by simp [-splice, f0, f3, f9, f11, f23, f24, f143]⟩
              clear f0 f3 f9 f11 f23 f24 f143
              rintro t H n ⟨f0, f3, f9, f11, f23, f146⟩
              refine Stk.on ?_
              exact Stk.ln 0 (by decide) (hJ9 _ _ _ ⟨f0, f3, f9, f11, f23, f146.trans (congrArg (fun q => AV.sc (.bool q)) (by rw [hb9]; rfl))⟩)
          clear f0 f3 f9 f11 f23 f24 f143
          rintro t H n ⟨f0, f3, f9, f11, f23, f146⟩
          refine Stk.run 1 (fun t H n => t 0 = .ssl (encs c97 a0) a0.length false ∧ t 3 = .sc (.int .i64 a3) ∧ t 9 = .sc (.int .i64 x5.1) ∧ t 11 = .sc (.int .i64 x6.1) ∧ t 23 = .sc (.int .i64 x18.1) ∧ t 147 = .sc (.bool ((x9.2 == 0) && (x18.2 == 0)))) (fun J hJ => ?_) ?_
          · simp [-splice, f0, f3, f9, f11, f23, f146]
            exact hJ _ _ _ ⟨by simp [f0], by simp [f3], by simp [f9], by simp [f11], by simp [f23], by simp [-splice, f0, f3, f9, f11, f23, f146]⟩
          clear f0 f3 f9 f11 f23 f146
          rintro t H n ⟨f0, f3, f9, f11, f23, f147⟩
          refine Stk.jo 6 (fun t H n => t 0 = .ssl (encs c97 a0) a0.length false ∧ t 3 = .sc (.int .i64 a3) ∧ t 153 = .sc (.bool (((x9.2 == 0) && (x18.2 == 0)) && (decide (x18.1 < (if x5.1 < x6.1 then x6.1 else x5.1)))))) (fun J10 hJ10 => ?_) ?_
          · rcases Bool.eq_false_or_eq_true ((x9.2 == 0) && (x18.2 == 0)) with hb10 | hb10
            · rw [hb10] at f147
              refine Stk.run 6 (fun t H n => t 0 = .ssl (encs c97 a0) a0.length false ∧ t 3 = .sc (.int .i64 a3) ∧ t 153 = .sc (.bool (decide (x18.1 < (if x5.1 < x6.1 then x6.1 else x5.1))))) (fun J hJ => ?_) ?_
              · simp [-splice, f0, f3, f9, f11, f23, f147]
                exact hJ _ _ _ ⟨by simp [f0], by simp [f3], by simp [-splice, f0, f3, f9, f11, f23, f147]⟩
              clear f0 f3 f9 f11 f23 f147
              rintro t H n ⟨f0, f3, f153⟩
              refine Stk.on ?_
              exact Stk.ln 0 (by decide) (hJ10 _ _ _ ⟨f0, f3, f153.trans (congrArg (fun q => AV.sc (.bool q)) (by rw [hb10]; rfl))⟩)
            · rw [hb10] at f147
              refine Stk.run 6 (fun t H n => t 0 = .ssl (encs c97 a0) a0.length false ∧ t 3 = .sc (.int .i64 a3) ∧ t 153 = .sc (.bool false)) (fun J hJ => ?_) ?_
              · simp [-splice, f0, f3, f9, f11, f23, f147]
                exact hJ _ _ _ ⟨by simp [f0], by simp [f3], by simp [-splice, f0, f3, f9, f11, f23, f147]⟩
              clear f0 f3 f9 f11 f23 f147
              rintro t H n ⟨f0, f3, f153⟩
              refine Stk.on ?_
              exact Stk.ln 0 (by decide) (hJ10 _ _ _ ⟨f0, f3, f153.trans (congrArg (fun q => AV.sc (.bool q)) (by rw [hb10]; rfl))⟩)
          clear f0 f3 f9 f11 f23 f147
          rintro t H n ⟨f0, f3, f153⟩
          refine Stk.on ?_
          refine Stk.cond (((x9.2 == 0) && (x18.2 == 0)) && (decide (x18.1 < (if x5.1 < x6.1 then x6.1 else x5.1)))) (by exact f153) (fun hb19 => ?_) (fun hb19 => ?_)
          · have h := cT hb19 h
            refine Stk.sq ?_
            refine Stk.rg ?_
            refine Stk.run 1 (fun t H n => t 8 = .sc (.bool false)) (fun J hJ => ?_) ?_
            · simp [-splice, f0, f3, f153]
              exact hJ _ _ _ (by simp [-splice, f0, f3, f153])
            clear f0 f3 f153
            rintro t H n f8
            refine Stk.on ?_
            refine Stk.rt ?_
            have hq := Option.some.inj h; subst hq
            exact (hr _ _ _ (.sc (.bool false)) ([]) (by simp [f8]) (.inr (.inr (.free (rfl))))).1
          · have h := cF hb19 h
            refine Stk.sk ?_
            refine Stk.sq ?_
            refine Stk.sq ?_
            refine Stk.rg ?_
            refine Stk.run 2 (fun t H n => t 0 = .ssl (encs c97 a0) a0.length false ∧ t 3 = .sc (.int .i64 a3) ∧ t 155 = .ssl (encs c97 a0) a0.length false ∧ t 156 = .sc (.int .i64 a3)) (fun J hJ => ?_) ?_
            · simp [-splice, f0, f3, f153]
              exact hJ _ _ _ ⟨by simp [f0], by simp [f3], by simp [-splice, f0, f3, f153], by simp [-splice, f0, f3, f153]⟩
            clear f0 f3 f153
            rintro t H n ⟨f0, f3, f155, f156⟩
            obtain ⟨x20, hx20, h⟩ := bnd h
            refine Stk.cv (g := 36) (args := [.ssl (encs c97 a0) a0.length false, .sc (.int .i64 a3)]) (args' := [.ssl (encs c97 a0) a0.length false, .sc (.int .i64 a3)]) (v := .tup [.sc (.int .i64 x20.1), .ssl (encs c97 x20.2.1) x20.2.1.length false, .sc (.bool x20.2.2)]) [] (ok_poly_Split F _ _ _ hx20) (by simp [f0, f3, f155, f156]) rfl rfl (by simp [f0, f3, f155, f156]) (.cons (.free (freeL_encs fr97 _)) (.cons (.free (rfl)) (.nil))) (.inl ⟨rfl, by simp [free, freeL, freeL_encs fr97]⟩) (fun t' ht' => ?_)
            refine Stk.gen (fun t H n => t 0 = .ssl (encs c97 a0) a0.length false ∧ t 3 = .sc (.int .i64 a3) ∧ t 157 = .tup [.sc (.int .i64 x20.1), .ssl (encs c97 x20.2.1) x20.2.1.length false, .sc (.bool x20.2.2)]) ⟨by simp [ht', f0], by simp [ht', f3], by simp [ht']⟩ ?_
            clear f0 f3 f155 f156 ht' t'
            rintro t H n ⟨f0, f3, f157⟩
            refine Stk.run 7 (fun t H n => t 0 = .ssl (encs c97 a0) a0.length false ∧ t 3 = .sc (.int .i64 a3) ∧ t 25 = .sc (.int .i64 x20.1) ∧ t 26 = .ssl (encs c97 x20.2.1) x20.2.1.length false ∧ t 27 = .sc (.bool x20.2.2)) (fun J hJ => ?_) ?_
            · simp [-splice, f0, f3, f157]
              exact hJ _ _ _ ⟨by simp [f0], by simp [f3], by simp [-splice, f0, f3, f157], by simp [-splice, f0, f3, f157], by simp [-splice, f0, f3, f157]⟩
            clear f0 f3 f157
            rintro t H n ⟨f0, f3, f25, f26, f27⟩
            refine Stk.on ?_
            refine Stk.sq ?_
            refine Stk.rg ?_
            refine Stk.run 1 (fun t H n => t 0 = .ssl (encs c97 a0) a0.length false ∧ t 3 = .sc (.int .i64 a3) ∧ t 25 = .sc (.int .i64 x20.1) ∧ t 26 = .ssl (encs c97 x20.2.1) x20.2.1.length false ∧ t 161 = .sc (.bool x20.2.2)) (fun J hJ => ?_) ?_
            · simp [-splice, f0, f3, f25, f26, f27]
              exact hJ _ _ _ ⟨by simp [f0], by simp [f3], by simp [f25], by simp [f26], by simp [-splice, f0, f3, f25, f26, f27]⟩
            clear f0 f3 f25 f26 f27
            rintro t H n ⟨f0, f3, f25, f26, f161⟩
            refine Stk.on ?_
            refine Stk.cond x20.2.2 (by exact f161) (fun hb21 => ?_) (fun hb21 => ?_)
            · have h := cT hb21 h
              refine Stk.sq ?_
              refine Stk.rg ?_
              refine Stk.run 1 (fun t H n => t 0 = .ssl (encs c97 a0) a0.length false ∧ t 3 = .sc (.int .i64 a3) ∧ t 26 = .ssl (encs c97 x20.2.1) x20.2.1.length false ∧ t 163 = .sc (.int .i64 x20.1)) (fun J hJ => ?_) ?_
              · simp [-splice, f0, f3, f25, f26, f161]
                exact hJ _ _ _ ⟨by simp [f0], by simp [f3], by simp [f26], by simp [-splice, f0, f3, f25, f26, f161]⟩
              clear f0 f3 f25 f26 f161
              rintro t H n ⟨f0, f3, f26, f163⟩
              obtain ⟨x22, hx22, h⟩ := bnd h
              refine Stk.cv (g := 31) (args := [.sc (.int .i64 x20.1)]) (args' := [.sc (.int .i64 x20.1)]) (v := .tup [.ssl (encs c97 x22.1) x22.1.length false, .sc (.int .i64 x22.2)]) [] (ok_poly_Num F _ _ hx22) (by simp [f0, f3, f26, f163]) rfl rfl (by simp [f0, f3, f26, f163]) (.cons (.free (rfl)) (.nil)) (.inl ⟨rfl, by simp [free, freeL, freeL_encs fr97]⟩) (fun t' ht' => ?_)
              refine Stk.gen (fun t H n => t 0 = .ssl (encs c97 a0) a0.length false ∧ t 3 = .sc (.int .i64 a3) ∧ t 26 = .ssl (encs c97 x20.2.1) x20.2.1.length false ∧ t 164 = .tup [.ssl (encs c97 x22.1) x22.1.length false, .sc (.int .i64 x22.2)]) ⟨by simp [ht', f0], by simp [ht', f3], by simp [ht', f26], by simp [ht']⟩ ?_
              clear f0 f3 f26 f163 ht' t'
              rintro t H n ⟨f0, f3, f26, f164⟩
              refine Stk.run 5 (fun t H n => t 0 = .ssl (encs c97 a0) a0.length false ∧ t 3 = .sc (.int .i64 a3) ∧ t 26 = .ssl (encs c97 x20.2.1) x20.2.1.length false ∧ t 28 = .ssl (encs c97 x22.1) x22.1.length false) (fun J hJ => ?_) ?_
              · simp [-splice, f0, f3, f26, f164]
                exact hJ _ _ _ ⟨by simp [f0], by simp [f3], by simp [f26], by simp [-splice, f0, f3, f26, f164]⟩
              clear f0 f3 f26 f164
              rintro t H n ⟨f0, f3, f26, f28⟩
              refine Stk.on ?_
              refine Stk.sq ?_
              refine Stk.rg ?_
              refine Stk.run 1 (fun t H n => t 0 = .ssl (encs c97 a0) a0.length false ∧ t 3 = .sc (.int .i64 a3) ∧ t 26 = .ssl (encs c97 x20.2.1) x20.2.1.length false ∧ t 28 = .ssl (encs c97 x22.1) x22.1.length false ∧ t 168 = .sc (.int .i64 a3)) (fun J hJ => ?_) ?_
              · simp [-splice, f0, f3, f26, f28]
                exact hJ _ _ _ ⟨by simp [f0], by simp [f3], by simp [f26], by simp [f28], by simp [-splice, f0, f3, f26, f28]⟩
              clear f0 f3 f26 f28
              rintro t H n ⟨f0, f3, f26, f28, f168⟩
              obtain ⟨x23, hx23, h⟩ := bnd h
              refine Stk.cv (g := 33) (args := [.sc (.int .i64 a3)]) (args' := [.sc (.int .i64 a3)]) (v := .tup [.ssl (encs c97 x23.1) x23.1.length false, .sc (.int .i64 x23.2)]) [] (ok_poly_Var F _ _ hx23) (by simp [f0, f3, f26, f28, f168]) rfl rfl (by simp [f0, f3, f26, f28, f168]) (.cons (.free (rfl)) (.nil)) (.inl ⟨rfl, by simp [free, freeL, freeL_encs fr97]⟩) (fun t' ht' => ?_)
              refine Stk.gen (fun t H n => t 0 = .ssl (encs c97 a0) a0.length false ∧ t 3 = .sc (.int .i64 a3) ∧ t 26 = .ssl (encs c97 x20.2.1) x20.2.1.length false ∧ t 28 = .ssl (encs c97 x22.1) x22.1.length false ∧ t 169 = .tup [.ssl (encs c97 x23.1) x23.1.length false, .sc (.int .i64 x23.2)]) ⟨by simp [ht', f0], by simp [ht', f3], by simp [ht', f26], by simp [ht', f28], by simp [ht']⟩ ?_
              clear f0 f3 f26 f28 f168 ht' t'
              rintro t H n ⟨f0, f3, f26, f28, f169⟩
              refine Stk.run 5 (fun t H n => t 0 = .ssl (encs c97 a0) a0.length false ∧ t 3 = .sc (.int .i64 a3) ∧ t 26 = .ssl (encs c97 x20.2.1) x20.2.1.length false ∧ t 28 = .ssl (encs c97 x22.1) x22.1.length false ∧ t 30 = .ssl (encs c97 x23.1) x23.1.length false ∧ t 31 = .sc (.int .i64 x23.2)) (fun J hJ => ?_) ?_
              · simp [-splice, f0, f3, f26, f28, f169]
                exact hJ _ _ _ ⟨by simp [f0], by simp [f3], by simp [f26], by simp [f28], by simp [-splice, f0, f3, f26, f28, f169], by simp [-splice, f0, f3, f26, f28, f169]⟩
              clear f0 f3 f26 f28 f169
              rintro t H n ⟨f0, f3, f26, f28, f30, f31⟩
              refine Stk.on ?_
              refine Stk.sq ?_
              refine Stk.rg ?_
              refine Stk.run 2 (fun t H n => t 0 = .ssl (encs c97 a0) a0.length false ∧ t 3 = .sc (.int .i64 a3) ∧ t 26 = .ssl (encs c97 x20.2.1) x20.2.1.length false ∧ t 31 = .sc (.int .i64 x23.2) ∧ t 173 = .ssl (encs c97 x22.1) x22.1.length false ∧ t 174 = .ssl (encs c97 x23.1) x23.1.length false) (fun J hJ => ?_) ?_
              · simp [-splice, f0, f3, f26, f28, f30, f31]
                exact hJ _ _ _ ⟨by simp [f0], by simp [f3], by simp [f26], by simp [f31], by simp [-splice, f0, f3, f26, f28, f30, f31], by simp [-splice, f0, f3, f26, f28, f30, f31]⟩
              clear f0 f3 f26 f28 f30 f31
              rintro t H n ⟨f0, f3, f26, f31, f173, f174⟩
              obtain ⟨x24, hx24, h⟩ := bnd h
              refine Stk.cv (g := 21) (args := [.ssl (encs c97 x22.1) x22.1.length false, .ssl (encs c97 x23.1) x23.1.length false]) (args' := [.ssl (encs c97 x22.1) x22.1.length false, .ssl (encs c97 x23.1) x23.1.length false]) (v := .tup [.ssl (encs c97 x24.1) x24.1.length false, .sc (.int .i64 x24.2)]) [] (ok_poly_Mul F _ _ _ hx24) (by simp [f0, f3, f26, f31, f173, f174]) rfl rfl (by simp [f0, f3, f26, f31, f173, f174]) (.cons (.free (freeL_encs fr97 _)) (.cons (.free (freeL_encs fr97 _)) (.nil))) (.inl ⟨rfl, by simp [free, freeL, freeL_encs fr97]⟩) (fun t' ht' => ?_)
              refine Stk.gen (fun t H n => t 0 = .ssl (encs c97 a0) a0.length false ∧ t 3 = .sc (.int .i64 a3) ∧ t 26 = .ssl (encs c97 x20.2.1) x20.2.1.length false ∧ t 31 = .sc (.int .i64 x23.2) ∧ t 175 = .tup [.ssl (encs c97 x24.1) x24.1.length false, .sc (.int .i64 x24.2)]) ⟨by simp [ht', f0], by simp [ht', f3], by simp [ht', f26], by simp [ht', f31], by simp [ht']⟩ ?_
              clear f0 f3 f26 f31 f173 f174 ht' t'
              rintro t H n ⟨f0, f3, f26, f31, f175⟩
              refine Stk.run 5 (fun t H n => t 0 = .ssl (encs c97 a0) a0.length false ∧ t 3 = .sc (.int .i64 a3) ∧ t 26 = .ssl (encs c97 x20.2.1) x20.2.1.length false ∧ t 31 = .sc (.int .i64 x23.2) ∧ t 32 = .ssl (encs c97 x24.1) x24.1.length false ∧ t 33 = .sc (.int .i64 x24.2)) (fun J hJ => ?_) ?_
              · simp [-splice, f0, f3, f26, f31, f175]
                exact hJ _ _ _ ⟨by simp [f0], by simp [f3], by simp [f26], by simp [f31], by simp [-splice, f0, f3, f26, f31, f175], by simp [-splice, f0, f3, f26, f31, f175]⟩
              clear f0 f3 f26 f31 f175
              rintro t H n ⟨f0, f3, f26, f31, f32, f33⟩
              refine Stk.on ?_
              refine Stk.sq ?_
              refine Stk.rg ?_
              refine Stk.run 2 (fun t H n => t 0 = .ssl (encs c97 a0) a0.length false ∧ t 3 = .sc (.int .i64 a3) ∧ t 26 = .ssl (encs c97 x20.2.1) x20.2.1.length false ∧ t 31 = .sc (.int .i64 x23.2) ∧ t 33 = .sc (.int .i64 x24.2) ∧ t 179 = .ssl (encs c97 x24.1) x24.1.length false ∧ t 180 = .ssl (encs c97 x20.2.1) x20.2.1.length false) (fun J hJ => ?_) ?_
              · simp [-splice, f0, f3, f26, f31, f32, f33]
                exact hJ _ _ _ ⟨by simp [f0], by simp [f3], by simp [f26], by simp [f31], by simp [f33], by simp [-splice, f0, f3, f26, f31, f32, f33], by simp [-splice, f0, f3, f26, f31, f32, f33]⟩
              clear f0 f3 f26 f31 f32 f33
              rintro t H n ⟨f0, f3, f26, f31, f33, f179, f180⟩
              obtain ⟨x25, hx25, h⟩ := bnd h
              refine Stk.cv (g := 20) (args := [.ssl (encs c97 x24.1) x24.1.length false, .ssl (encs c97 x20.2.1) x20.2.1.length false]) (args' := [.ssl (encs c97 x24.1) x24.1.length false, .ssl (encs c97 x20.2.1) x20.2.1.length false]) (v := .tup [.ssl (encs c97 x25.1) x25.1.length false, .sc (.int .i64 x25.2)]) [] (ok_poly_Add F _ _ _ hx25) (by simp [f0, f3, f26, f31, f33, f179, f180]) rfl rfl (by simp [f0, f3, f26, f31, f33, f179, f180]) (.cons (.free (freeL_encs fr97 _)) (.cons (.free (freeL_encs fr97 _)) (.nil))) (.inl ⟨rfl, by simp [free, freeL, freeL_encs fr97]⟩) (fun t' ht' => ?_)
              refine Stk.gen (fun t H n => t 0 = .ssl (encs c97 a0) a0.length false ∧ t 3 = .sc (.int .i64 a3) ∧ t 26 = .ssl (encs c97 x20.2.1) x20.2.1.length false ∧ t 31 = .sc (.int .i64 x23.2) ∧ t 33 = .sc (.int .i64 x24.2) ∧ t 181 = .tup [.ssl (encs c97 x25.1) x25.1.length false, .sc (.int .i64 x25.2)]) ⟨by simp [ht', f0], by simp [ht', f3], by simp [ht', f26], by simp [ht', f31], by simp [ht', f33], by simp [ht']⟩ ?_
              clear f0 f3 f26 f31 f33 f179 f180 ht' t'
              rintro t H n ⟨f0, f3, f26, f31, f33, f181⟩
              refine Stk.run 5 (fun t H n => t 0 = .ssl (encs c97 a0) a0.length false ∧ t 3 = .sc (.int .i64 a3) ∧ t 26 = .ssl (encs c97 x20.2.1) x20.2.1.length false ∧ t 31 = .sc (.int .i64 x23.2) ∧ t 33 = .sc (.int .i64 x24.2) ∧ t 34 = .ssl (encs c97 x25.1) x25.1.length false ∧ t 35 = .sc (.int .i64 x25.2)) (fun J hJ => ?_) ?_
              · simp [-splice, f0, f3, f26, f31, f33, f181]
                exact hJ _ _ _ ⟨by simp [f0], by simp [f3], by simp [f26], by simp [f31], by simp [f33], by simp [-splice, f0, f3, f26, f31, f33, f181], by simp [-splice, f0, f3, f26, f31, f33, f181]⟩
              clear f0 f3 f26 f31 f33 f181
              rintro t H n ⟨f0, f3, f26, f31, f33, f34, f35⟩
              refine Stk.on ?_
              refine Stk.sq ?_
              refine Stk.rg ?_
              refine Stk.run 3 (fun t H n => t 0 = .ssl (encs c97 a0) a0.length false ∧ t 3 = .sc (.int .i64 a3) ∧ t 26 = .ssl (encs c97 x20.2.1) x20.2.1.length false ∧ t 33 = .sc (.int .i64 x24.2) ∧ t 34 = .ssl (encs c97 x25.1) x25.1.length false ∧ t 35 = .sc (.int .i64 x25.2) ∧ t 186 = .sc (.bool (x23.2 == 0))) (fun J hJ => ?_) ?_
              · simp [-splice, f0, f3, f26, f31, f33, f34, f35]
                exact hJ _ _ _ ⟨by simp [f0], by simp [f3], by simp [f26], by simp [f33], by simp [f34], by simp [f35], by simp [-splice, f0, f3, f26, f31, f33, f34, f35]⟩
              clear f0 f3 f26 f31 f33 f34 f35
              rintro t H n ⟨f0, f3, f26, f33, f34, f35, f186⟩
              obtain ⟨K11, hK11, h⟩ := jnd h
              refine Stk.jo 13 (fun t H n => ∃ v26 : Bool, K11 v26 = some r ∧ t 3 = .sc (.int .i64 a3) ∧ t 26 = .ssl (encs c97 x20.2.1) x20.2.1.length false ∧ t 199 = .sc (.bool v26)) (fun J11 hJ11 => ?_) ?_
              · rcases Bool.eq_false_or_eq_true (x23.2 == 0) with hb11 | hb11
                · rw [hb11] at f186
                  replace h := cT hb11 h
                  refine Stk.run 3 (fun t H n => t 0 = .ssl (encs c97 a0) a0.length false ∧ t 3 = .sc (.int .i64 a3) ∧ t 26 = .ssl (encs c97 x20.2.1) x20.2.1.length false ∧ t 34 = .ssl (encs c97 x25.1) x25.1.length false ∧ t 35 = .sc (.int .i64 x25.2) ∧ t 186 = .sc (.bool true) ∧ t 189 = .sc (.bool (x24.2 != 0))) (fun J hJ => ?_) ?_
                  · simp [-splice, f0, f3, f26, f33, f34, f35, f186]
                    exact hJ _ _ _ ⟨by simp [f0], by simp [f3], by simp [f26], by simp [f34], by simp [f35], by simp [f186], by simp [-splice, f0, f3, f26, f33, f34, f35, f186]⟩
                  clear f0 f3 f26 f33 f34 f35 f186
                  rintro t H n ⟨f0, f3, f26, f34, f35, f186, f189⟩
                  refine Stk.jo 3 (fun t H n => t 0 = .ssl (encs c97 a0) a0.length false ∧ t 3 = .sc (.int .i64 a3) ∧ t 26 = .ssl (encs c97 x20.2.1) x20.2.1.length false ∧ t 34 = .ssl (encs c97 x25.1) x25.1.length false ∧ t 186 = .sc (.bool true) ∧ t 192 = .sc (.bool ((x24.2 != 0) || (x25.2 != 0)))) (fun J12 hJ12 => ?_) ?_
                  · rcases Bool.eq_false_or_eq_true (x24.2 != 0) with hb12 | hb12
                    · rw [hb12] at f189
                      refine Stk.run 3 (fun t H n => t 0 = .ssl (encs c97 a0) a0.length false ∧ t 3 = .sc (.int .i64 a3) ∧ t 26 = .ssl (encs c97 x20.2.1) x20.2.1.length false ∧ t 34 = .ssl (encs c97 x25.1) x25.1.length false ∧ t 186 = .sc (.bool true) ∧ t 192 = .sc (.bool true)) (fun J hJ => ?_) ?_
                      · simp [-splice, f0, f3, f26, f34, f35, f186, f189]
                        exact hJ _ _ _ ⟨by simp [f0], by simp [f3], by simp [f26], by simp [f34], by simp [f186], by simp [-splice, f0, f3, f26, f34, f35, f186, f189]⟩
                      clear f0 f3 f26 f34 f35 f186 f189
                      rintro t H n ⟨f0, f3, f26, f34, f186, f192⟩
                      refine Stk.on ?_
                      exact Stk.ln 0 (by decide) (hJ12 _ _ _ ⟨f0, f3, f26, f34, f186, f192.trans (congrArg (fun q => AV.sc (.bool q)) (by rw [hb12]; rfl))⟩)
                    · rw [hb12] at f189
                      refine Stk.run 3 (fun t H n => t 0 = .ssl (encs c97 a0) a0.length false ∧ t 3 = .sc (.int .i64 a3) ∧ t 26 = .ssl (encs c97 x20.2.1) x20.2.1.length false ∧ t 34 = .ssl (encs c97 x25.1) x25.1.length false ∧ t 186 = .sc (.bool true) ∧ t 192 = .sc (.bool (x25.2 != 0))) (fun J hJ => ?_) ?_
                      · simp [-splice, f0, f3, f26, f34, f35, f186, f189]
                        exact hJ _ _ _ ⟨by simp [f0], by simp [f3], by simp [f26], by simp [f34], by simp [f186], by simp [-splice, f0, f3, f26, f34, f35, f186, f189]⟩
                      clear f0 f3 f26 f34 f35 f186 f189
                      rintro t H n ⟨f0, f3, f26, f34, f186, f192⟩
                      refine Stk.on ?_
                      exact Stk.ln 0 (by decide) (hJ12 _ _ _ ⟨f0, f3, f26, f34, f186, f192.trans (congrArg (fun q => AV.sc (.bool q)) (by rw [hb12]; rfl))⟩)
                  clear f0 f3 f26 f34 f35 f186 f189
                  rintro t H n ⟨f0, f3, f26, f34, f186, f192⟩
                  refine Stk.run 1 (fun t H n => t 0 = .ssl (encs c97 a0) a0.length false ∧ t 3 = .sc (.int .i64 a3) ∧ t 26 = .ssl (encs c97 x20.2.1) x20.2.1.length false ∧ t 34 = .ssl (encs c97 x25.1) x25.1.length false ∧ t 186 = .sc (.bool true) ∧ t 193 = .sc (.bool ((x24.2 != 0) || (x25.2 != 0)))) (fun J hJ => ?_) ?_
                  · simp [-splice, f0, f3, f26, f34, f186, f192]
                    exact hJ _ _ _ ⟨by simp [f0], by simp [f3], by simp [f26], by simp [f34], by simp [f186], by simp [-splice, f0, f3, f26, f34, f186, f192]⟩
                  clear f0 f3 f26 f34 f186 f192
                  rintro t H n ⟨f0, f3, f26, f34, f186, f193⟩
                  obtain ⟨K13, hK13, h⟩ := jnd h
                  refine Stk.jo 5 (fun t H n => ∃ v27 : Bool, K13 v27 = some r ∧ t 3 = .sc (.int .i64 a3) ∧ t 26 = .ssl (encs c97 x20.2.1) x20.2.1.length false ∧ t 186 = .sc (.bool true) ∧ t 198 = .sc (.bool v27)) (fun J13 hJ13 => ?_) ?_
                  · rcases Bool.eq_false_or_eq_true ((x24.2 != 0) || (x25.2 != 0)) with hb13 | hb13
                    · rw [hb13] at f193
                      replace h := cT hb13 h
                      refine Stk.run 5 (fun t H n => t 3 = .sc (.int .i64 a3) ∧ t 26 = .ssl (encs c97 x20.2.1) x20.2.1.length false ∧ t 186 = .sc (.bool true) ∧ t 198 = .sc (.bool true)) (fun J hJ => ?_) ?_
                      · simp [-splice, f0, f3, f26, f34, f186, f193]
                        exact hJ _ _ _ ⟨by simp [f3], by simp [f26], by simp [f186], by simp [-splice, f0, f3, f26, f34, f186, f193]⟩
                      clear f0 f3 f26 f34 f186 f193
                      rintro t H n ⟨f3, f26, f186, f198⟩
                      refine Stk.on ?_
                      exact Stk.ln 0 (by decide) (hJ13 _ _ _ ⟨true, h, f3, f26, f186, f198⟩)
                    · rw [hb13] at f193
                      replace h := cF hb13 h
                      refine Stk.run 2 (fun t H n => t 3 = .sc (.int .i64 a3) ∧ t 26 = .ssl (encs c97 x20.2.1) x20.2.1.length false ∧ t 186 = .sc (.bool true) ∧ t 193 = .sc (.bool false) ∧ t 194 = .ssl (encs c97 x25.1) x25.1.length false ∧ t 195 = .ssl (encs c97 a0) a0.length false) (fun J hJ => ?_) ?_
                      · simp [-splice, f0, f3, f26, f34, f186, f193]
                        exact hJ _ _ _ ⟨by simp [f3], by simp [f26], by simp [f186], by simp [f193], by simp [-splice, f0, f3, f26, f34, f186, f193], by simp [-splice, f0, f3, f26, f34, f186, f193]⟩
                      clear f0 f3 f26 f34 f186 f193
                      rintro t H n ⟨f3, f26, f186, f193, f194, f195⟩
                      obtain ⟨x28, hx28, h⟩ := bnd h
                      refine Stk.cv (g := 22) (args := [.ssl (encs c97 x25.1) x25.1.length false, .ssl (encs c97 a0) a0.length false]) (args' := [.ssl (encs c97 x25.1) x25.1.length false, .ssl (encs c97 a0) a0.length false]) (v := .sc (.bool x28)) [] (ok_R13_Same F _ _ _ hx28) (by simp [f3, f26, f186, f193, f194, f195]) rfl rfl (by simp [f3, f26, f186, f193, f194, f195]) (.cons (.free (freeL_encs fr97 _)) (.cons (.free (freeL_encs fr97 _)) (.nil))) (.inl ⟨rfl, rfl⟩) (fun t' ht' => ?_)
                      refine Stk.gen (fun t H n => t 3 = .sc (.int .i64 a3) ∧ t 26 = .ssl (encs c97 x20.2.1) x20.2.1.length false ∧ t 186 = .sc (.bool true) ∧ t 193 = .sc (.bool false) ∧ t 196 = .sc (.bool x28)) ⟨by simp [ht', f3], by simp [ht', f26], by simp [ht', f186], by simp [ht', f193], by simp [ht']⟩ ?_
                      clear f3 f26 f186 f193 f194 f195 ht' t'
                      rintro t H n ⟨f3, f26, f186, f193, f196⟩
                      refine Stk.run 2 (fun t H n => t 3 = .sc (.int .i64 a3) ∧ t 26 = .ssl (encs c97 x20.2.1) x20.2.1.length false ∧ t 186 = .sc (.bool true) ∧ t 198 = .sc (.bool (!x28))) (fun J hJ => ?_) ?_
                      · simp [-splice, f3, f26, f186, f193, f196]
                        exact hJ _ _ _ ⟨by simp [f3], by simp [f26], by simp [f186], by simp [-splice, f3, f26, f186, f193, f196]⟩
                      clear f3 f26 f186 f193 f196
                      rintro t H n ⟨f3, f26, f186, f198⟩
                      refine Stk.on ?_
                      exact Stk.ln 0 (by decide) (hJ13 _ _ _ ⟨(!x28), h, f3, f26, f186, f198⟩)
                  clear h f0 f3 f26 f34 f186 f193
                  rintro t H n ⟨v27, h, f3, f26, f186, f198⟩
                  subst hK13
                  refine Stk.run 1 (fun t H n => t 3 = .sc (.int .i64 a3) ∧ t 26 = .ssl (encs c97 x20.2.1) x20.2.1.length false ∧ t 199 = .sc (.bool v27)) (fun J hJ => ?_) ?_
                  · simp [-splice, f3, f26, f186, f198]
                    exact hJ _ _ _ ⟨by simp [f3], by simp [f26], by simp [-splice, f3, f26, f186, f198]⟩
                  clear f3 f26 f186 f198
                  rintro t H n ⟨f3, f26, f199⟩
                  refine Stk.on ?_
                  exact Stk.ln 0 (by decide) (hJ11 _ _ _ ⟨v27, h, f3, f26, f199⟩)
                · rw [hb11] at f186
                  replace h := cF hb11 h
                  refine Stk.run 13 (fun t H n => t 3 = .sc (.int .i64 a3) ∧ t 26 = .ssl (encs c97 x20.2.1) x20.2.1.length false ∧ t 199 = .sc (.bool false)) (fun J hJ => ?_) ?_
                  · simp [-splice, f0, f3, f26, f33, f34, f35, f186]
                    exact hJ _ _ _ ⟨by simp [f3], by simp [f26], by simp [-splice, f0, f3, f26, f33, f34, f35, f186]⟩
                  clear f0 f3 f26 f33 f34 f35 f186
                  rintro t H n ⟨f3, f26, f199⟩
                  refine Stk.on ?_
                  exact Stk.ln 0 (by decide) (hJ11 _ _ _ ⟨false, h, f3, f26, f199⟩)
              clear h f0 f3 f26 f33 f34 f35 f186
              rintro t H n ⟨v26, h, f3, f26, f199⟩
              subst hK11
              refine Stk.run 1 (fun t H n => t 3 = .sc (.int .i64 a3) ∧ t 26 = .ssl (encs c97 x20.2.1) x20.2.1.length false ∧ t 200 = .sc (.bool v26)) (fun J hJ => ?_) ?_
              · simp [-splice, f3, f26, f199]
                exact hJ _ _ _ ⟨by simp [f3], by simp [f26], by simp [-splice, f3, f26, f199]⟩
              clear f3 f26 f199
              rintro t H n ⟨f3, f26, f200⟩
              obtain ⟨K14, hK14, h⟩ := jnd h
              refine Stk.jo 4 (fun t H n => ∃ v29 : Bool, K14 v29 = some r ∧ t 204 = .sc (.bool v29)) (fun J14 hJ14 => ?_) ?_
              · rcases Bool.eq_false_or_eq_true v26 with hb14 | hb14
                · rw [hb14] at f200
                  replace h := cT hb14 h
                  refine Stk.run 4 (fun t H n => t 204 = .sc (.bool true)) (fun J hJ => ?_) ?_
                  · simp [-splice, f3, f26, f200]
                    exact hJ _ _ _ (by simp [-splice, f3, f26, f200])
                  clear f3 f26 f200
                  rintro t H n f204
                  refine Stk.on ?_
                  exact Stk.ln 0 (by decide) (hJ14 _ _ _ ⟨true, h, f204⟩)
                · rw [hb14] at f200
                  replace h := cF hb14 h
                  refine Stk.run 2 (fun t H n => t 200 = .sc (.bool false) ∧ t 201 = .ssl (encs c97 x20.2.1) x20.2.1.length false ∧ t 202 = .sc (.int .i64 a3)) (fun J hJ => ?_) ?_
                  · simp [-splice, f3, f26, f200]
                    exact hJ _ _ _ ⟨by simp [f200], by simp [-splice, f3, f26, f200], by simp [-splice, f3, f26, f200]⟩
                  clear f3 f26 f200
                  rintro t H n ⟨f200, f201, f202⟩
                  obtain ⟨x30, hx30, h⟩ := bnd h
                  refine Stk.cv (g := 39) (args := [.ssl (encs c97 x20.2.1) x20.2.1.length false, .sc (.int .i64 a3)]) (args' := [.ssl (encs c97 x20.2.1) x20.2.1.length false, .sc (.int .i64 a3)]) (v := .sc (.bool x30)) [] (ok_poly_Has F _ _ _ hx30) (by simp [f200, f201, f202]) rfl rfl (by simp [f200, f201, f202]) (.cons (.free (freeL_encs fr97 _)) (.cons (.free (rfl)) (.nil))) (.inl ⟨rfl, rfl⟩) (fun t' ht' => ?_)
                  refine Stk.gen (fun t H n => t 200 = .sc (.bool false) ∧ t 203 = .sc (.bool x30)) ⟨by simp [ht', f200], by simp [ht']⟩ ?_
                  clear f200 f201 f202 ht' t'
                  rintro t H n ⟨f200, f203⟩
                  refine Stk.run 1 (fun t H n => t 204 = .sc (.bool x30)) (fun J hJ => ?_) ?_
                  · simp [-splice, f200, f203]
                    exact hJ _ _ _ (by simp [-splice, f200, f203])
                  clear f200 f203
                  rintro t H n f204
                  refine Stk.on ?_
                  exact Stk.ln 0 (by decide) (hJ14 _ _ _ ⟨x30, h, f204⟩)
              clear h f3 f26 f200
              rintro t H n ⟨v29, h, f204⟩
              subst hK14
              refine Stk.on ?_
              refine Stk.cond v29 (by exact f204) (fun hb31 => ?_) (fun hb31 => ?_)
              · have h := cT hb31 h
                refine Stk.sq ?_
                refine Stk.rg ?_
                refine Stk.run 1 (fun t H n => t 8 = .sc (.bool false)) (fun J hJ => ?_) ?_
                · simp [-splice, f204]
                  exact hJ _ _ _ (by simp [-splice, f204])
                clear f204
                rintro t H n f8
                refine Stk.on ?_
                refine Stk.rt ?_
                have hq := Option.some.inj h; subst hq
                exact (hr _ _ _ (.sc (.bool false)) ([]) (by simp [f8]) (.inr (.inr (.free (rfl))))).1
              · have h := cF hb31 h
                refine Stk.sk ?_
                refine Stk.sq ?_
                refine Stk.rg ?_
                obtain ⟨x32, hx32, h⟩ := bnd h
                refine Stk.cv (g := 19) (args := []) (args' := []) (v := .sc (.bool x32)) [] (ok_L13_awake F  _ hx32) (by simp [f204]) rfl rfl (by simp [f204]) (.nil) (.inl ⟨rfl, rfl⟩) (fun t' ht' => ?_)
                refine Stk.gen (fun t H n => t 205 = .sc (.bool x32)) (by simp [ht']) ?_
                clear f204 ht' t'
                rintro t H n f205
                refine Stk.run 1 (fun t H n => t 8 = .sc (.bool x32)) (fun J hJ => ?_) ?_
                · simp [-splice, f205]
                  exact hJ _ _ _ (by simp [-splice, f205])
                clear f205
                rintro t H n f8
                refine Stk.on ?_
                refine Stk.rt ?_
                have hq := Option.some.inj h; subst hq
                exact (hr _ _ _ (.sc (.bool x32)) ([]) (by simp [f8]) (.inr (.inr (.free (rfl))))).1
            · have h := cF hb21 h
              refine Stk.sk ?_
              refine Stk.sq ?_
              refine Stk.rg ?_
              obtain ⟨x33, hx33, h⟩ := bnd h
              refine Stk.cv (g := 19) (args := []) (args' := []) (v := .sc (.bool x33)) [] (ok_L13_awake F  _ hx33) (by simp [f0, f3, f25, f26, f161]) rfl rfl (by simp [f0, f3, f25, f26, f161]) (.nil) (.inl ⟨rfl, rfl⟩) (fun t' ht' => ?_)
              refine Stk.gen (fun t H n => t 205 = .sc (.bool x33)) (by simp [ht']) ?_
              clear f0 f3 f25 f26 f161 ht' t'
              rintro t H n f205
              refine Stk.run 1 (fun t H n => t 8 = .sc (.bool x33)) (fun J hJ => ?_) ?_
              · simp [-splice, f205]
                exact hJ _ _ _ (by simp [-splice, f205])
              clear f205
              rintro t H n f8
              refine Stk.on ?_
              refine Stk.rt ?_
              have hq := Option.some.inj h; subst hq
              exact (hr _ _ _ (.sc (.bool x33)) ([]) (by simp [f8]) (.inr (.inr (.free (rfl))))).1
end Go.Proofs.Ytfbkgjmpadknfaa.M
