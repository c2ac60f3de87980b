/-
  The functions come to them.
-/
import Derived.Test.YtfbkgjmpadknfaaGM
import Derived.Test.YtfbkgjmpadknfaaGW2
import Derived.Test.YtfbkgjmpadknfaaGW3
import Derived.Test.YtfbkgjmpadknfaaGW5
import Derived.Test.YtfbkgjmpadknfaaGW6
namespace Go.Proofs.Ytfbkgjmpadknfaa.M
open Go.Proofs.YtfbkgjmpadknfaaW.Ah Go.Proofs.Ytfbkgjmpadknfaa
set_option linter.unusedVariables false
set_option linter.unusedSimpArgs false
set_option maxRecDepth 8000
attribute [local simp] T.t4 T.t23 T.t37 T.t39 List.range List.range.loop
attribute [-simp] appendAV fillAV
theorem ok_L13_PolyRing (F : Nat) (a0 : (List api_Term)) (a1 : (List api_Term)) (a2 : (List api_Term)) (r : Bool) (h : L13_PolyRing F a0 a1 a2 = some r) : RunF Try.prog T.T 4 [.ssl (encs c97 a0) a0.length false, .ssl (encs c97 a1) a1.length false, .ssl (encs c97 a2) a2.length false] (.sc (.bool r)) := by
  rw [L13_PolyRing] at h
  refine RunF.z Try.func4 rfl rfl rfl rfl rfl (fun C hr => ?_)
  refine Stk.gen (fun t H n => t 0 = .ssl (encs c97 a0) a0.length false ∧ t 1 = .ssl (encs c97 a1) a1.length false ∧ t 2 = .ssl (encs c97 a2) a2.length false) ⟨by simp, by simp, by simp⟩ ?_
  rintro t H n ⟨f0, f1, f2⟩
  refine Stk.sq ?_
  refine Stk.rg ?_
  refine Stk.run 1 (fun t H n => t 0 = .ssl (encs c97 a0) a0.length false ∧ t 1 = .ssl (encs c97 a1) a1.length false ∧ t 2 = .ssl (encs c97 a2) a2.length false) (fun J hJ => ?_) ?_
  · simp [-splice, f0, f1, f2]
    exact hJ _ _ _ ⟨by simp [f0], by simp [f1], by simp [f2]⟩
  clear f0 f1 f2
  rintro t H n ⟨f0, f1, f2⟩
  refine Stk.on ?_
  refine Stk.sq ?_
  refine Stk.sq ?_
  refine Stk.rg ?_
  refine Stk.run 3 (fun t H n => t 0 = .ssl (encs c97 a0) a0.length false ∧ t 1 = .ssl (encs c97 a1) a1.length false ∧ t 2 = .ssl (encs c97 a2) a2.length false ∧ t 29 = .ssl (encs c97 a0) a0.length false ∧ t 30 = .ssl (encs c97 a1) a1.length false ∧ t 31 = .ssl (encs c97 a2) a2.length false) (fun J hJ => ?_) ?_
  · simp [-splice, f0, f1, f2]
    exact hJ _ _ _ ⟨by simp [f0], by simp [f1], by simp [f2], by simp [-splice, f0, f1, f2], by simp [-splice, f0, f1, f2], by simp [-splice, f0, f1, f2]⟩
  clear f0 f1 f2
  rintro t H n ⟨f0, f1, f2, f29, f30, f31⟩
  refine Stk.om (mop_buildN (c := c37) (z := 1) T.t39 rfl T.t37 rfl (by decide) rfl (by decide) [a0, a1, a2] rfl (.cons f29 rfl rfl rfl rfl (by simp [length_encs]) (splice_next (c := c37) [] _ a0 rfl (by simp)) (.cons f30 rfl rfl rfl rfl (by simp [length_encs]) (splice_next (c := c37) [a0] _ a1 rfl (by simp)) (.cons f31 rfl rfl rfl rfl (by simp [length_encs]) (splice_next (c := c37) [a0, a1] _ a2 rfl (by simp)) (.nil))))) (by simp [f0, f1, f2, f29, f30, f31]) rfl (fun t' ht' => ?_)
  refine Stk.gen (fun t H n => ∃ b1, t 0 = .ssl (encs c97 a0) a0.length false ∧ t 1 = .ssl (encs c97 a1) a1.length false ∧ t 2 = .ssl (encs c97 a2) a2.length false ∧ t 32 = .osl b1 0 ([a0, a1, a2] : List (List api_Term)).length (some ([a0, a1, a2] : List (List api_Term)).length) ∧ H b1 = some (.cells (encs c37 ([a0, a1, a2] : List (List api_Term))) 37) ∧ b1 < n) ⟨n, by simp [ht', f0], by simp [ht', f1], by simp [ht', f2], by simp [ht'], upd_same _ _ _, Nat.lt_succ_self _⟩ ?_
  clear f0 f1 f2 f29 f30 f31 ht' t'
  rintro t H n ⟨b1, f0, f1, f2, f32, b_b1, l_b1⟩
  obtain ⟨x2, hx2, h⟩ := bnd h
  refine Stk.cv (g := 18) (args := [.osl b1 0 ([a0, a1, a2] : List (List api_Term)).length (some ([a0, a1, a2] : List (List api_Term)).length)]) (args' := [.ssl (encs c37 ([a0, a1, a2] : List (List api_Term))) ([a0, a1, a2] : List (List api_Term)).length false]) (v := .sc (.bool x2)) [b1] (ok_L13_few F _ _ hx2) (by simp [f0, f1, f2, f32]) rfl rfl (by simp [f0, f1, f2, f32]) (.cons (view_row fr37 b_b1 (by simp) _) (.nil)) (.inr rfl) (fun t' ht' => ?_)
  refine Stk.gen (fun t H n => t 0 = .ssl (encs c97 a0) a0.length false ∧ t 1 = .ssl (encs c97 a1) a1.length false ∧ t 2 = .ssl (encs c97 a2) a2.length false ∧ t 33 = .sc (.bool x2)) ⟨by simp [ht', f0], by simp [ht', f1], by simp [ht', f2], by simp [ht']⟩ ?_
  clear f0 f1 f2 f32 b_b1 l_b1 ht' t'
  rintro t H n ⟨f0, f1, f2, f33⟩
  refine Stk.run 1 (fun t H n => t 0 = .ssl (encs c97 a0) a0.length false ∧ t 1 = .ssl (encs c97 a1) a1.length false ∧ t 2 = .ssl (encs c97 a2) a2.length false ∧ t 34 = .sc (.bool (!x2))) (fun J hJ => ?_) ?_
  · simp [-splice, f0, f1, f2, f33]
    exact hJ _ _ _ ⟨by simp [f0], by simp [f1], by simp [f2], by simp [-splice, f0, f1, f2, f33]⟩
  clear f0 f1 f2 f33
  rintro t H n ⟨f0, f1, f2, f34⟩
  refine Stk.on ?_
  refine Stk.cond (!x2) (by exact f34) (fun hb3 => ?_) (fun hb3 => ?_)
  · have h := cT hb3 h
    refine Stk.sq ?_
    refine Stk.rg ?_
    obtain ⟨x4, hx4, h⟩ := bnd h
    refine Stk.cv (g := 19) (args := []) (args' := []) (v := .sc (.bool x4)) [] (ok_L13_awake F  _ hx4) (by simp [f0, f1, f2, f34]) rfl rfl (by simp [f0, f1, f2, f34]) (.nil) (.inl ⟨rfl, rfl⟩) (fun t' ht' => ?_)
    refine Stk.gen (fun t H n => t 35 = .sc (.bool x4)) (by simp [ht']) ?_
    clear f0 f1 f2 f34 ht' t'
    rintro t H n f35
    refine Stk.run 1 (fun t H n => t 6 = .sc (.bool x4)) (fun J hJ => ?_) ?_
    · simp [-splice, f35]
      exact hJ _ _ _ (by simp [-splice, f35])
    clear f35
    rintro t H n f6
    refine Stk.on ?_
    refine Stk.rt ?_
    have hq := Option.some.inj h; subst hq
    exact (hr _ _ _ (.sc (.bool x4)) ([]) (by simp [f6]) (.inr (.inr (.free (rfl))))).1
  · have h := cF hb3 h
    refine Stk.sk ?_
    refine Stk.sq ?_
    refine Stk.rg ?_
    refine Stk.run 2 (fun t H n => t 0 = .ssl (encs c97 a0) a0.length false ∧ t 1 = .ssl (encs c97 a1) a1.length false ∧ t 2 = .ssl (encs c97 a2) a2.length false ∧ t 37 = .ssl (encs c97 a0) a0.length false ∧ t 38 = .ssl (encs c97 a1) a1.length false) (fun J hJ => ?_) ?_
    · simp [-splice, f0, f1, f2, f34]
      exact hJ _ _ _ ⟨by simp [f0], by simp [f1], by simp [f2], by simp [-splice, f0, f1, f2, f34], by simp [-splice, f0, f1, f2, f34]⟩
    clear f0 f1 f2 f34
    rintro t H n ⟨f0, f1, f2, f37, f38⟩
    obtain ⟨x5, hx5, h⟩ := bnd h
    refine Stk.cv (g := 20) (args := [.ssl (encs c97 a0) a0.length false, .ssl (encs c97 a1) a1.length false]) (args' := [.ssl (encs c97 a0) a0.length false, .ssl (encs c97 a1) a1.length false]) (v := .tup [.ssl (encs c97 x5.1) x5.1.length false, .sc (.int .i64 x5.2)]) [] (ok_poly_Add F _ _ _ hx5) (by simp [f0, f1, f2, f37, f38]) rfl rfl (by simp [f0, f1, f2, f37, f38]) (.cons (.free (freeL_encs fr97 _)) (.cons (.free (freeL_encs fr97 _)) (.nil))) (.inl ⟨rfl, by simp [free, freeL, freeL_encs fr97]⟩) (fun t' ht' => ?_)
    refine Stk.gen (fun t H n => t 0 = .ssl (encs c97 a0) a0.length false ∧ t 1 = .ssl (encs c97 a1) a1.length false ∧ t 2 = .ssl (encs c97 a2) a2.length false ∧ t 39 = .tup [.ssl (encs c97 x5.1) x5.1.length false, .sc (.int .i64 x5.2)]) ⟨by simp [ht', f0], by simp [ht', f1], by simp [ht', f2], by simp [ht']⟩ ?_
    clear f0 f1 f2 f37 f38 ht' t'
    rintro t H n ⟨f0, f1, f2, f39⟩
    refine Stk.run 5 (fun t H n => t 0 = .ssl (encs c97 a0) a0.length false ∧ t 1 = .ssl (encs c97 a1) a1.length false ∧ t 2 = .ssl (encs c97 a2) a2.length false ∧ t 7 = .ssl (encs c97 x5.1) x5.1.length false ∧ t 8 = .sc (.int .i64 x5.2)) (fun J hJ => ?_) ?_
    · simp [-splice, f0, f1, f2, f39]
      exact hJ _ _ _ ⟨by simp [f0], by simp [f1], by simp [f2], by simp [-splice, f0, f1, f2, f39], by simp [-splice, f0, f1, f2, f39]⟩
    clear f0 f1 f2 f39
    rintro t H n ⟨f0, f1, f2, f7, f8⟩
    refine Stk.on ?_
    refine Stk.sq ?_
    refine Stk.rg ?_
    refine Stk.run 2 (fun t H n => t 0 = .ssl (encs c97 a0) a0.length false ∧ t 1 = .ssl (encs c97 a1) a1.length false ∧ t 2 = .ssl (encs c97 a2) a2.length false ∧ t 7 = .ssl (encs c97 x5.1) x5.1.length false ∧ t 8 = .sc (.int .i64 x5.2) ∧ t 43 = .ssl (encs c97 a1) a1.length false ∧ t 44 = .ssl (encs c97 a0) a0.length false) (fun J hJ => ?_) ?_
    · simp [-splice, f0, f1, f2, f7, f8]
      exact hJ _ _ _ ⟨by simp [f0], by simp [f1], by simp [f2], by simp [f7], by simp [f8], by simp [-splice, f0, f1, f2, f7, f8], by simp [-splice, f0, f1, f2, f7, f8]⟩
    clear f0 f1 f2 f7 f8
    rintro t H n ⟨f0, f1, f2, f7, f8, f43, f44⟩
    obtain ⟨x6, hx6, h⟩ := bnd h
    refine Stk.cv (g := 20) (args := [.ssl (encs c97 a1) a1.length false, .ssl (encs c97 a0) a0.length false]) (args' := [.ssl (encs c97 a1) a1.length false, .ssl (encs c97 a0) a0.length false]) (v := .tup [.ssl (encs c97 x6.1) x6.1.length false, .sc (.int .i64 x6.2)]) [] (ok_poly_Add F _ _ _ hx6) (by simp [f0, f1, f2, f7, f8, f43, f44]) rfl rfl (by simp [f0, f1, f2, f7, f8, f43, f44]) (.cons (.free (freeL_encs fr97 _)) (.cons (.free (freeL_encs fr97 _)) (.nil))) (.inl ⟨rfl, by simp [free, freeL, freeL_encs fr97]⟩) (fun t' ht' => ?_)
    refine Stk.gen (fun t H n => t 0 = .ssl (encs c97 a0) a0.length false ∧ t 1 = .ssl (encs c97 a1) a1.length false ∧ t 2 = .ssl (encs c97 a2) a2.length false ∧ t 7 = .ssl (encs c97 x5.1) x5.1.length false ∧ t 8 = .sc (.int .i64 x5.2) ∧ t 45 = .tup [.ssl (encs c97 x6.1) x6.1.length false, .sc (.int .i64 x6.2)]) ⟨by simp [ht', f0], by simp [ht', f1], by simp [ht', f2], by simp [ht', f7], by simp [ht', f8], by simp [ht']⟩ ?_
    clear f0 f1 f2 f7 f8 f43 f44 ht' t'
    rintro t H n ⟨f0, f1, f2, f7, f8, f45⟩
    refine Stk.run 5 (fun t H n => t 0 = .ssl (encs c97 a0) a0.length false ∧ t 1 = .ssl (encs c97 a1) a1.length false ∧ t 2 = .ssl (encs c97 a2) a2.length false ∧ t 7 = .ssl (encs c97 x5.1) x5.1.length false ∧ t 8 = .sc (.int .i64 x5.2) ∧ t 9 = .ssl (encs c97 x6.1) x6.1.length false ∧ t 10 = .sc (.int .i64 x6.2)) (fun J hJ => ?_) ?_
    · simp [-splice, f0, f1, f2, f7, f8, f45]
      exact hJ _ _ _ ⟨by simp [f0], by simp [f1], by simp [f2], by simp [f7], by simp [f8], by simp [-splice, f0, f1, f2, f7, f8, f45], by simp [-splice, f0, f1, f2, f7, f8, f45]⟩
    clear f0 f1 f2 f7 f8 f45
    rintro t H n ⟨f0, f1, f2, f7, f8, f9, f10⟩
    refine Stk.on ?_
    refine Stk.sq ?_
    refine Stk.rg ?_
    refine Stk.run 2 (fun t H n => t 0 = .ssl (encs c97 a0) a0.length false ∧ t 1 = .ssl (encs c97 a1) a1.length false ∧ t 2 = .ssl (encs c97 a2) a2.length false ∧ t 7 = .ssl (encs c97 x5.1) x5.1.length false ∧ t 8 = .sc (.int .i64 x5.2) ∧ t 9 = .ssl (encs c97 x6.1) x6.1.length false ∧ t 10 = .sc (.int .i64 x6.2) ∧ t 49 = .ssl (encs c97 a0) a0.length false ∧ t 50 = .ssl (encs c97 a1) a1.length false) (fun J hJ => ?_) ?_
    · simp [-splice, f0, f1, f2, f7, f8, f9, f10]
      exact hJ _ _ _ ⟨by simp [f0], by simp [f1], by simp [f2], by simp [f7], by simp [f8], by simp [f9], by simp [f10], by simp [-splice, f0, f1, f2, f7, f8, f9, f10], by simp [-splice, f0, f1, f2, f7, f8, f9, f10]⟩
    clear f0 f1 f2 f7 f8 f9 f10
    rintro t H n ⟨f0, f1, f2, f7, f8, f9, f10, f49, f50⟩
    obtain ⟨x7, hx7, h⟩ := bnd h
    refine Stk.cv (g := 21) (args := [.ssl (encs c97 a0) a0.length false, .ssl (encs c97 a1) a1.length false]) (args' := [.ssl (encs c97 a0) a0.length false, .ssl (encs c97 a1) a1.length false]) (v := .tup [.ssl (encs c97 x7.1) x7.1.length false, .sc (.int .i64 x7.2)]) [] (ok_poly_Mul F _ _ _ hx7) (by simp [f0, f1, f2, f7, f8, f9, f10, f49, f50]) rfl rfl (by simp [f0, f1, f2, f7, f8, f9, f10, f49, f50]) (.cons (.free (freeL_encs fr97 _)) (.cons (.free (freeL_encs fr97 _)) (.nil))) (.inl ⟨rfl, by simp [free, freeL, freeL_encs fr97]⟩) (fun t' ht' => ?_)
    refine Stk.gen (fun t H n => t 0 = .ssl (encs c97 a0) a0.length false ∧ t 1 = .ssl (encs c97 a1) a1.length false ∧ t 2 = .ssl (encs c97 a2) a2.length false ∧ t 7 = .ssl (encs c97 x5.1) x5.1.length false ∧ t 8 = .sc (.int .i64 x5.2) ∧ t 9 = .ssl (encs c97 x6.1) x6.1.length false ∧ t 10 = .sc (.int .i64 x6.2) ∧ t 51 = .tup [.ssl (encs c97 x7.1) x7.1.length false, .sc (.int .i64 x7.2)]) ⟨by simp [ht', f0], by simp [ht', f1], by simp [ht', f2], by simp [ht', f7], by simp [ht', f8], by simp [ht', f9], by simp [ht', f10], by simp [ht']⟩ ?_
    clear f0 f1 f2 f7 f8 f9 f10 f49 f50 ht' t'
    rintro t H n ⟨f0, f1, f2, f7, f8, f9, f10, f51⟩
    refine Stk.run 5 (fun t H n => t 0 = .ssl (encs c97 a0) a0.length false ∧ t 1 = .ssl (encs c97 a1) a1.length false ∧ t 2 = .ssl (encs c97 a2) a2.length false ∧ t 7 = .ssl (encs c97 x5.1) x5.1.length false ∧ t 8 = .sc (.int .i64 x5.2) ∧ t 9 = .ssl (encs c97 x6.1) x6.1.length false ∧ t 10 = .sc (.int .i64 x6.2) ∧ t 11 = .ssl (encs c97 x7.1) x7.1.length false ∧ t 12 = .sc (.int .i64 x7.2)) (fun J hJ => ?_) ?_
    · simp [-splice, f0, f1, f2, f7, f8, f9, f10, f51]
      exact hJ _ _ _ ⟨by simp [f0], by simp [f1], by simp [f2], by simp [f7], by simp [f8], by simp [f9], by simp [f10], by simp [-splice, f0, f1, f2, f7, f8, f9, f10, f51], by simp [-splice, f0, f1, f2, f7, f8, f9, f10, f51]⟩
    clear f0 f1 f2 f7 f8 f9 f10 f51
    rintro t H n ⟨f0, f1, f2, f7, f8, f9, f10, f11, f12⟩
    refine Stk.on ?_
    refine Stk.sq ?_
    refine Stk.rg ?_
    refine Stk.run 2 (fun t H n => t 0 = .ssl (encs c97 a0) a0.length false ∧ t 1 = .ssl (encs c97 a1) a1.length false ∧ t 2 = .ssl (encs c97 a2) a2.length false ∧ t 7 = .ssl (encs c97 x5.1) x5.1.length false ∧ t 8 = .sc (.int .i64 x5.2) ∧ t 9 = .ssl (encs c97 x6.1) x6.1.length false ∧ t 10 = .sc (.int .i64 x6.2) ∧ t 11 = .ssl (encs c97 x7.1) x7.1.length false ∧ t 12 = .sc (.int .i64 x7.2) ∧ t 55 = .ssl (encs c97 a1) a1.length false ∧ t 56 = .ssl (encs c97 a0) a0.length false) (fun J hJ => ?_) ?_
    · simp [-splice, f0, f1, f2, f7, f8, f9, f10, f11, f12]
      exact hJ _ _ _ ⟨by simp [f0], by simp [f1], by simp [f2], by simp [f7], by simp [f8], by simp [f9], by simp [f10], by simp [f11], by simp [f12], by simp [-splice, f0, f1, f2, f7, f8, f9, f10, f11, f12], by simp [-splice, f0, f1, f2, f7, f8, f9, f10, f11, f12]⟩
    clear f0 f1 f2 f7 f8 f9 f10 f11 f12
    rintro t H n ⟨f0, f1, f2, f7, f8, f9, f10, f11, f12, f55, f56⟩
    obtain ⟨x8, hx8, h⟩ := bnd h
    refine Stk.cv (g := 21) (args := [.ssl (encs c97 a1) a1.length false, .ssl (encs c97 a0) a0.length false]) (args' := [.ssl (encs c97 a1) a1.length false, .ssl (encs c97 a0) a0.length false]) (v := .tup [.ssl (encs c97 x8.1) x8.1.length false, .sc (.int .i64 x8.2)]) [] (ok_poly_Mul F _ _ _ hx8) (by simp [f0, f1, f2, f7, f8, f9, f10, f11, f12, f55, f56]) rfl rfl (by simp [f0, f1, f2, f7, f8, f9, f10, f11, f12, f55, f56]) (.cons (.free (freeL_encs fr97 _)) (.cons (.free (freeL_encs fr97 _)) (.nil))) (.inl ⟨rfl, by simp [free, freeL, freeL_encs fr97]⟩) (fun t' ht' => ?_)
    refine Stk.gen (fun t H n => t 0 = .ssl (encs c97 a0) a0.length false ∧ t 1 = .ssl (encs c97 a1) a1.length false ∧ t 2 = .ssl (encs c97 a2) a2.length false ∧ t 7 = .ssl (encs c97 x5.1) x5.1.length false ∧ t 8 = .sc (.int .i64 x5.2) ∧ t 9 = .ssl (encs c97 x6.1) x6.1.length false ∧ t 10 = .sc (.int .i64 x6.2) ∧ t 11 = .ssl (encs c97 x7.1) x7.1.length false ∧ t 12 = .sc (.int .i64 x7.2) ∧ t 57 = .tup [.ssl (encs c97 x8.1) x8.1.length false, .sc (.int .i64 x8.2)]) ⟨by simp [ht', f0], by simp [ht', f1], by simp [ht', f2], by simp [ht', f7], by simp [ht', f8], by simp [ht', f9], by simp [ht', f10], by simp [ht', f11], by simp [ht', f12], by simp [ht']⟩ ?_
    clear f0 f1 f2 f7 f8 f9 f10 f11 f12 f55 f56 ht' t'
    rintro t H n ⟨f0, f1, f2, f7, f8, f9, f10, f11, f12, f57⟩
    refine Stk.run 5 (fun t H n => t 0 = .ssl (encs c97 a0) a0.length false ∧ t 1 = .ssl (encs c97 a1) a1.length false ∧ t 2 = .ssl (encs c97 a2) a2.length false ∧ t 7 = .ssl (encs c97 x5.1) x5.1.length false ∧ t 8 = .sc (.int .i64 x5.2) ∧ t 9 = .ssl (encs c97 x6.1) x6.1.length false ∧ t 10 = .sc (.int .i64 x6.2) ∧ t 11 = .ssl (encs c97 x7.1) x7.1.length false ∧ t 12 = .sc (.int .i64 x7.2) ∧ t 13 = .ssl (encs c97 x8.1) x8.1.length false ∧ t 14 = .sc (.int .i64 x8.2)) (fun J hJ => ?_) ?_
    · simp [-splice, f0, f1, f2, f7, f8, f9, f10, f11, f12, f57]
      exact hJ _ _ _ ⟨by simp [f0], by simp [f1], by simp [f2], by simp [f7], by simp [f8], by simp [f9], by simp [f10], by simp [f11], by simp [f12], by simp [-splice, f0, f1, f2, f7, f8, f9, f10, f11, f12, f57], by simp [-splice, f0, f1, f2, f7, f8, f9, f10, f11, f12, f57]⟩
    clear f0 f1 f2 f7 f8 f9 f10 f11 f12 f57
    rintro t H n ⟨f0, f1, f2, f7, f8, f9, f10, f11, f12, f13, f14⟩
    refine Stk.on ?_
    refine Stk.sq ?_
    refine Stk.sq ?_
    refine Stk.rg ?_
    refine Stk.run 4 (fun t H n => t 0 = .ssl (encs c97 a0) a0.length false ∧ t 1 = .ssl (encs c97 a1) a1.length false ∧ t 2 = .ssl (encs c97 a2) a2.length false ∧ t 7 = .ssl (encs c97 x5.1) x5.1.length false ∧ t 8 = .sc (.int .i64 x5.2) ∧ t 9 = .ssl (encs c97 x6.1) x6.1.length false ∧ t 11 = .ssl (encs c97 x7.1) x7.1.length false ∧ t 12 = .sc (.int .i64 x7.2) ∧ t 13 = .ssl (encs c97 x8.1) x8.1.length false ∧ t 14 = .sc (.int .i64 x8.2) ∧ t 63 = .sc (.bool (x5.2 != x6.2))) (fun J hJ => ?_) ?_
    · simp [-splice, f0, f1, f2, f7, f8, f9, f10, f11, f12, f13, f14]
      exact hJ _ _ _ ⟨by simp [f0], by simp [f1], by simp [f2], by simp [f7], by simp [f8], by simp [f9], by simp [f11], by simp [f12], by simp [f13], by simp [f14], by simp [-splice, f0, f1, f2, f7, f8, f9, f10, f11, f12, f13, f14]⟩
    clear f0 f1 f2 f7 f8 f9 f10 f11 f12 f13 f14
    rintro t H n ⟨f0, f1, f2, f7, f8, f9, f11, f12, f13, f14, f63⟩
    refine Stk.jo 4 (fun t H n => t 0 = .ssl (encs c97 a0) a0.length false ∧ t 1 = .ssl (encs c97 a1) a1.length false ∧ t 2 = .ssl (encs c97 a2) a2.length false ∧ t 7 = .ssl (encs c97 x5.1) x5.1.length false ∧ t 8 = .sc (.int .i64 x5.2) ∧ t 9 = .ssl (encs c97 x6.1) x6.1.length false ∧ t 11 = .ssl (encs c97 x7.1) x7.1.length false ∧ t 12 = .sc (.int .i64 x7.2) ∧ t 13 = .ssl (encs c97 x8.1) x8.1.length false ∧ t 67 = .sc (.bool ((x5.2 != x6.2) || (x7.2 != x8.2)))) (fun J1 hJ1 => ?_) ?_
    · rcases Bool.eq_false_or_eq_true (x5.2 != x6.2) with hb1 | hb1
      · rw [hb1] at f63
        refine Stk.run 4 (fun t H n => t 0 = .ssl (encs c97 a0) a0.length false ∧ t 1 = .ssl (encs c97 a1) a1.length false ∧ t 2 = .ssl (encs c97 a2) a2.length false ∧ t 7 = .ssl (encs c97 x5.1) x5.1.length false ∧ t 8 = .sc (.int .i64 x5.2) ∧ t 9 = .ssl (encs c97 x6.1) x6.1.length false ∧ t 11 = .ssl (encs c97 x7.1) x7.1.length false ∧ t 12 = .sc (.int .i64 x7.2) ∧ t 13 = .ssl (encs c97 x8.1) x8.1.length false ∧ t 67 = .sc (.bool true)) (fun J hJ => ?_) ?_
        · simp [-splice, f0, f1, f2, f7, f8, f9, f11, f12, f13, f14, f63]
          exact hJ _ _ _ ⟨by simp [f0], by simp [f1], by simp [f2], by simp [f7], by simp [f8], by simp [f9], by simp [f11], by simp [f12], by simp [f13], by simp [-splice, f0, f1, f2, f7, f8, f9, f11, f12, f13, f14, f63]⟩
        clear f0 f1 f2 f7 f8 f9 f11 f12 f13 f14 f63
        rintro t H n ⟨f0, f1, f2, f7, f8, f9, f11, f12, f13, f67⟩
        refine Stk.on ?_
        exact Stk.ln 0 (by decide) (hJ1 _ _ _ ⟨f0, f1, f2, f7, f8, f9, f11, f12, f13, f67.trans (congrArg (fun q => AV.sc (.bool q)) (by rw [hb1]; rfl))⟩)
      · rw [hb1] at f63
        refine Stk.run 4 (fun t H n => t 0 = .ssl (encs c97 a0) a0.length false ∧ t 1 = .ssl (encs c97 a1) a1.length false ∧ t 2 = .ssl (encs c97 a2) a2.length false ∧ t 7 = .ssl (encs c97 x5.1) x5.1.length false ∧ t 8 = .sc (.int .i64 x5.2) ∧ t 9 = .ssl (encs c97 x6.1) x6.1.length false ∧ t 11 = .ssl (encs c97 x7.1) x7.1.length false ∧ t 12 = .sc (.int .i64 x7.2) ∧ t 13 = .ssl (encs c97 x8.1) x8.1.length false ∧ t 67 = .sc (.bool (x7.2 != x8.2))) (fun J hJ => ?_) ?_
        · simp [-splice, f0, f1, f2, f7, f8, f9, f11, f12, f13, f14, f63]
          exact hJ _ _ _ ⟨by simp [f0], by simp [f1], by simp [f2], by simp [f7], by simp [f8], by simp [f9], by simp [f11], by simp [f12], by simp [f13], by simp [-splice, f0, f1, f2, f7, f8, f9, f11, f12, f13, f14, f63]⟩
        clear f0 f1 f2 f7 f8 f9 f11 f12 f13 f14 f63
        rintro t H n ⟨f0, f1, f2, f7, f8, f9, f11, f12, f13, f67⟩
        refine Stk.on ?_
        exact Stk.ln 0 (by decide) (hJ1 _ _ _ ⟨f0, f1, f2, f7, f8, f9, f11, f12, f13, f67.trans (congrArg (fun q => AV.sc (.bool q)) (by rw [hb1]; rfl))⟩)
    clear f0 f1 f2 f7 f8 f9 f11 f12 f13 f14 f63
    rintro t H n ⟨f0, f1, f2, f7, f8, f9, f11, f12, f13, f67⟩
    refine Stk.run 1 (fun t H n => t 0 = .ssl (encs c97 a0) a0.length false ∧ t 1 = .ssl (encs c97 a1) a1.length false ∧ t 2 = .ssl (encs c97 a2) a2.length false ∧ t 7 = .ssl (encs c97 x5.1) x5.1.length false ∧ t 8 = .sc (.int .i64 x5.2) ∧ t 9 = .ssl (encs c97 x6.1) x6.1.length false ∧ t 11 = .ssl (encs c97 x7.1) x7.1.length false ∧ t 12 = .sc (.int .i64 x7.2) ∧ t 13 = .ssl (encs c97 x8.1) x8.1.length false ∧ t 68 = .sc (.bool ((x5.2 != x6.2) || (x7.2 != x8.2)))) (fun J hJ => ?_) ?_
    · simp [-splice, f0, f1, f2, f7, f8, f9, f11, f12, f13, f67]
      exact hJ _ _ _ ⟨by simp [f0], by simp [f1], by simp [f2], by simp [f7], by simp [f8], by simp [f9], by simp [f11], by simp [f12], by simp [f13], by simp [-splice, f0, f1, f2, f7, f8, f9, f11, f12, f13, f67]⟩
    clear f0 f1 f2 f7 f8 f9 f11 f12 f13 f67
    rintro t H n ⟨f0, f1, f2, f7, f8, f9, f11, f12, f13, f68⟩
    obtain ⟨K2, hK2, h⟩ := jnd h
    refine Stk.jo 5 (fun t H n => ∃ v9 : Bool, K2 v9 = some r ∧ t 0 = .ssl (encs c97 a0) a0.length false ∧ t 1 = .ssl (encs c97 a1) a1.length false ∧ t 2 = .ssl (encs c97 a2) a2.length false ∧ t 7 = .ssl (encs c97 x5.1) x5.1.length false ∧ t 8 = .sc (.int .i64 x5.2) ∧ t 11 = .ssl (encs c97 x7.1) x7.1.length false ∧ t 12 = .sc (.int .i64 x7.2) ∧ t 13 = .ssl (encs c97 x8.1) x8.1.length false ∧ t 73 = .sc (.bool v9)) (fun J2 hJ2 => ?_) ?_
    · rcases Bool.eq_false_or_eq_true ((x5.2 != x6.2) || (x7.2 != x8.2)) with hb2 | hb2
      · rw [hb2] at f68
        replace h := cT hb2 h
        refine Stk.run 5 (fun t H n => t 0 = .ssl (encs c97 a0) a0.length false ∧ t 1 = .ssl (encs c97 a1) a1.length false ∧ t 2 = .ssl (encs c97 a2) a2.length false ∧ t 7 = .ssl (encs c97 x5.1) x5.1.length false ∧ t 8 = .sc (.int .i64 x5.2) ∧ t 11 = .ssl (encs c97 x7.1) x7.1.length false ∧ t 12 = .sc (.int .i64 x7.2) ∧ t 13 = .ssl (encs c97 x8.1) x8.1.length false ∧ t 73 = .sc (.bool true)) (fun J hJ => ?_) ?_
        · simp [-splice, f0, f1, f2, f7, f8, f9, f11, f12, f13, f68]
          exact hJ _ _ _ ⟨by simp [f0], by simp [f1], by simp [f2], by simp [f7], by simp [f8], by simp [f11], by simp [f12], by simp [f13], by simp [-splice, f0, f1, f2, f7, f8, f9, f11, f12, f13, f68]⟩
        clear f0 f1 f2 f7 f8 f9 f11 f12 f13 f68
        rintro t H n ⟨f0, f1, f2, f7, f8, f11, f12, f13, f73⟩
        refine Stk.on ?_
        exact Stk.ln 0 (by decide) (hJ2 _ _ _ ⟨true, h, f0, f1, f2, f7, f8, f11, f12, f13, f73⟩)
      · rw [hb2] at f68
        replace h := cF hb2 h
        refine Stk.run 2 (fun t H n => t 0 = .ssl (encs c97 a0) a0.length false ∧ t 1 = .ssl (encs c97 a1) a1.length false ∧ t 2 = .ssl (encs c97 a2) a2.length false ∧ t 7 = .ssl (encs c97 x5.1) x5.1.length false ∧ t 8 = .sc (.int .i64 x5.2) ∧ t 11 = .ssl (encs c97 x7.1) x7.1.length false ∧ t 12 = .sc (.int .i64 x7.2) ∧ t 13 = .ssl (encs c97 x8.1) x8.1.length false ∧ t 68 = .sc (.bool false) ∧ t 69 = .ssl (encs c97 x5.1) x5.1.length false ∧ t 70 = .ssl (encs c97 x6.1) x6.1.length false) (fun J hJ => ?_) ?_
        · simp [-splice, f0, f1, f2, f7, f8, f9, f11, f12, f13, f68]
          exact hJ _ _ _ ⟨by simp [f0], by simp [f1], by simp [f2], by simp [f7], by simp [f8], by simp [f11], by simp [f12], by simp [f13], by simp [f68], by simp [-splice, f0, f1, f2, f7, f8, f9, f11, f12, f13, f68], by simp [-splice, f0, f1, f2, f7, f8, f9, f11, f12, f13, f68]⟩
        clear f0 f1 f2 f7 f8 f9 f11 f12 f13 f68
        rintro t H n ⟨f0, f1, f2, f7, f8, f11, f12, f13, f68, f69, f70⟩
        obtain ⟨x10, hx10, h⟩ := bnd h
        refine Stk.cv (g := 22) (args := [.ssl (encs c97 x5.1) x5.1.length false, .ssl (encs c97 x6.1) x6.1.length false]) (args' := [.ssl (encs c97 x5.1) x5.1.length false, .ssl (encs c97 x6.1) x6.1.length false]) (v := .sc (.bool x10)) [] (ok_R13_Same F _ _ _ hx10) (by simp [f0, f1, f2, f7, f8, f11, f12, f13, f68, f69, f70]) rfl rfl (by simp [f0, f1, f2, f7, f8, f11, f12, f13, f68, f69, f70]) (.cons (.free (freeL_encs fr97 _)) (.cons (.free (freeL_encs fr97 _)) (.nil))) (.inl ⟨rfl, rfl⟩) (fun t' ht' => ?_)
        refine Stk.gen (fun t H n => t 0 = .ssl (encs c97 a0) a0.length false ∧ t 1 = .ssl (encs c97 a1) a1.length false ∧ t 2 = .ssl (encs c97 a2) a2.length false ∧ t 7 = .ssl (encs c97 x5.1) x5.1.length false ∧ t 8 = .sc (.int .i64 x5.2) ∧ t 11 = .ssl (encs c97 x7.1) x7.1.length false ∧ t 12 = .sc (.int .i64 x7.2) ∧ t 13 = .ssl (encs c97 x8.1) x8.1.length false ∧ t 68 = .sc (.bool false) ∧ t 71 = .sc (.bool x10)) ⟨by simp [ht', f0], by simp [ht', f1], by simp [ht', f2], by simp [ht', f7], by simp [ht', f8], by simp [ht', f11], by simp [ht', f12], by simp [ht', f13], by simp [ht', f68], by simp [ht']⟩ ?_
        clear f0 f1 f2 f7 f8 f11 f12 f13 f68 f69 f70 ht' t'
        rintro t H n ⟨f0, f1, f2, f7, f8, f11, f12, f13, f68, f71⟩
        refine Stk.run 2 (fun t H n => t 0 = .ssl (encs c97 a0) a0.length false ∧ t 1 = .ssl (encs c97 a1) a1.length false ∧ t 2 = .ssl (encs c97 a2) a2.length false ∧ t 7 = .ssl (encs c97 x5.1) x5.1.length false ∧ t 8 = .sc (.int .i64 x5.2) ∧ t 11 = .ssl (encs c97 x7.1) x7.1.length false ∧ t 12 = .sc (.int .i64 x7.2) ∧ t 13 = .ssl (encs c97 x8.1) x8.1.length false ∧ t 73 = .sc (.bool (!x10))) (fun J hJ => ?_) ?_
        · simp [-splice, f0, f1, f2, f7, f8, f11, f12, f13, f68, f71]
          exact hJ _ _ _ ⟨by simp [f0], by simp [f1], by simp [f2], by simp [f7], by simp [f8], by simp [f11], by simp [f12], by simp [f13], by simp [-splice, f0, f1, f2, f7, f8, f11, f12, f13, f68, f71]⟩
        clear f0 f1 f2 f7 f8 f11 f12 f13 f68 f71
        rintro t H n ⟨f0, f1, f2, f7, f8, f11, f12, f13, f73⟩
        refine Stk.on ?_
        exact Stk.ln 0 (by decide) (hJ2 _ _ _ ⟨(!x10), h, f0, f1, f2, f7, f8, f11, f12, f13, f73⟩)
    clear h f0 f1 f2 f7 f8 f9 f11 f12 f13 f68
    rintro t H n ⟨v9, h, f0, f1, f2, f7, f8, f11, f12, f13, f73⟩
    subst hK2
    refine Stk.run 1 (fun t H n => t 0 = .ssl (encs c97 a0) a0.length false ∧ t 1 = .ssl (encs c97 a1) a1.length false ∧ t 2 = .ssl (encs c97 a2) a2.length false ∧ t 7 = .ssl (encs c97 x5.1) x5.1.length false ∧ t 8 = .sc (.int .i64 x5.2) ∧ t 11 = .ssl (encs c97 x7.1) x7.1.length false ∧ t 12 = .sc (.int .i64 x7.2) ∧ t 13 = .ssl (encs c97 x8.1) x8.1.length false ∧ t 74 = .sc (.bool v9)) (fun J hJ => ?_) ?_
    · simp [-splice, f0, f1, f2, f7, f8, f11, f12, f13, f73]
      exact hJ _ _ _ ⟨by simp [f0], by simp [f1], by simp [f2], by simp [f7], by simp [f8], by simp [f11], by simp [f12], by simp [f13], by simp [-splice, f0, f1, f2, f7, f8, f11, f12, f13, f73]⟩
    clear f0 f1 f2 f7 f8 f11 f12 f13 f73
    rintro t H n ⟨f0, f1, f2, f7, f8, f11, f12, f13, f74⟩
    obtain ⟨K3, hK3, h⟩ := jnd h
    refine Stk.jo 5 (fun t H n => ∃ v11 : Bool, K3 v11 = some r ∧ t 0 = .ssl (encs c97 a0) a0.length false ∧ t 1 = .ssl (encs c97 a1) a1.length false ∧ t 2 = .ssl (encs c97 a2) a2.length false ∧ t 7 = .ssl (encs c97 x5.1) x5.1.length false ∧ t 8 = .sc (.int .i64 x5.2) ∧ t 11 = .ssl (encs c97 x7.1) x7.1.length false ∧ t 12 = .sc (.int .i64 x7.2) ∧ t 79 = .sc (.bool v11)) (fun J3 hJ3 => ?_) ?_
    · rcases Bool.eq_false_or_eq_true v9 with hb3 | hb3
      · rw [hb3] at f74
        replace h := cT hb3 h
        refine Stk.run 5 (fun t H n => t 0 = .ssl (encs c97 a0) a0.length false ∧ t 1 = .ssl (encs c97 a1) a1.length false ∧ t 2 = .ssl (encs c97 a2) a2.length false ∧ t 7 = .ssl (encs c97 x5.1) x5.1.length false ∧ t 8 = .sc (.int .i64 x5.2) ∧ t 11 = .ssl (encs c97 x7.1) x7.1.length false ∧ t 12 = .sc (.int .i64 x7.2) ∧ t 79 = .sc (.bool true)) (fun J hJ => ?_) ?_
        · simp [-splice, f0, f1, f2, f7, f8, f11, f12, f13, f74]
          exact hJ _ _ _ ⟨by simp [f0], by simp [f1], by simp [f2], by simp [f7], by simp [f8], by simp [f11], by simp [f12], by simp [-splice, f0, f1, f2, f7, f8, f11, f12, f13, f74]⟩
        clear f0 f1 f2 f7 f8 f11 f12 f13 f74
        rintro t H n ⟨f0, f1, f2, f7, f8, f11, f12, f79⟩
        refine Stk.on ?_
        exact Stk.ln 0 (by decide) (hJ3 _ _ _ ⟨true, h, f0, f1, f2, f7, f8, f11, f12, f79⟩)
      · rw [hb3] at f74
        replace h := cF hb3 h
        refine Stk.run 2 (fun t H n => t 0 = .ssl (encs c97 a0) a0.length false ∧ t 1 = .ssl (encs c97 a1) a1.length false ∧ t 2 = .ssl (encs c97 a2) a2.length false ∧ t 7 = .ssl (encs c97 x5.1) x5.1.length false ∧ t 8 = .sc (.int .i64 x5.2) ∧ t 11 = .ssl (encs c97 x7.1) x7.1.length false ∧ t 12 = .sc (.int .i64 x7.2) ∧ t 74 = .sc (.bool false) ∧ t 75 = .ssl (encs c97 x7.1) x7.1.length false ∧ t 76 = .ssl (encs c97 x8.1) x8.1.length false) (fun J hJ => ?_) ?_
        · simp [-splice, f0, f1, f2, f7, f8, f11, f12, f13, f74]
          exact hJ _ _ _ ⟨by simp [f0], by simp [f1], by simp [f2], by simp [f7], by simp [f8], by simp [f11], by simp [f12], by simp [f74], by simp [-splice, f0, f1, f2, f7, f8, f11, f12, f13, f74], by simp [-splice, f0, f1, f2, f7, f8, f11, f12, f13, f74]⟩
        clear f0 f1 f2 f7 f8 f11 f12 f13 f74
        rintro t H n ⟨f0, f1, f2, f7, f8, f11, f12, f74, f75, f76⟩
        obtain ⟨x12, hx12, h⟩ := bnd h
        refine Stk.cv (g := 22) (args := [.ssl (encs c97 x7.1) x7.1.length false, .ssl (encs c97 x8.1) x8.1.length false]) (args' := [.ssl (encs c97 x7.1) x7.1.length false, .ssl (encs c97 x8.1) x8.1.length false]) (v := .sc (.bool x12)) [] (ok_R13_Same F _ _ _ hx12) (by simp [f0, f1, f2, f7, f8, f11, f12, f74, f75, f76]) rfl rfl (by simp [f0, f1, f2, f7, f8, f11, f12, f74, f75, f76]) (.cons (.free (freeL_encs fr97 _)) (.cons (.free (freeL_encs fr97 _)) (.nil))) (.inl ⟨rfl, rfl⟩) (fun t' ht' => ?_)
        refine Stk.gen (fun t H n => t 0 = .ssl (encs c97 a0) a0.length false ∧ t 1 = .ssl (encs c97 a1) a1.length false ∧ t 2 = .ssl (encs c97 a2) a2.length false ∧ t 7 = .ssl (encs c97 x5.1) x5.1.length false ∧ t 8 = .sc (.int .i64 x5.2) ∧ t 11 = .ssl (encs c97 x7.1) x7.1.length false ∧ t 12 = .sc (.int .i64 x7.2) ∧ t 74 = .sc (.bool false) ∧ t 77 = .sc (.bool x12)) ⟨by simp [ht', f0], by simp [ht', f1], by simp [ht', f2], by simp [ht', f7], by simp [ht', f8], by simp [ht', f11], by simp [ht', f12], by simp [ht', f74], by simp [ht']⟩ ?_
        clear f0 f1 f2 f7 f8 f11 f12 f74 f75 f76 ht' t'
        rintro t H n ⟨f0, f1, f2, f7, f8, f11, f12, f74, f77⟩
        refine Stk.run 2 (fun t H n => t 0 = .ssl (encs c97 a0) a0.length false ∧ t 1 = .ssl (encs c97 a1) a1.length false ∧ t 2 = .ssl (encs c97 a2) a2.length false ∧ t 7 = .ssl (encs c97 x5.1) x5.1.length false ∧ t 8 = .sc (.int .i64 x5.2) ∧ t 11 = .ssl (encs c97 x7.1) x7.1.length false ∧ t 12 = .sc (.int .i64 x7.2) ∧ t 79 = .sc (.bool (!x12))) (fun J hJ => ?_) ?_
        · simp [-splice, f0, f1, f2, f7, f8, f11, f12, f74, f77]
          exact hJ _ _ _ ⟨by simp [f0], by simp [f1], by simp [f2], by simp [f7], by simp [f8], by simp [f11], by simp [f12], by simp [-splice, f0, f1, f2, f7, f8, f11, f12, f74, f77]⟩
        clear f0 f1 f2 f7 f8 f11 f12 f74 f77
        rintro t H n ⟨f0, f1, f2, f7, f8, f11, f12, f79⟩
        refine Stk.on ?_
        exact Stk.ln 0 (by decide) (hJ3 _ _ _ ⟨(!x12), h, f0, f1, f2, f7, f8, f11, f12, f79⟩)
    clear h f0 f1 f2 f7 f8 f11 f12 f13 f74
    rintro t H n ⟨v11, h, f0, f1, f2, f7, f8, f11, f12, f79⟩
    subst hK3
    refine Stk.run 1 (fun t H n => t 0 = .ssl (encs c97 a0) a0.length false ∧ t 1 = .ssl (encs c97 a1) a1.length false ∧ t 2 = .ssl (encs c97 a2) a2.length false ∧ t 7 = .ssl (encs c97 x5.1) x5.1.length false ∧ t 8 = .sc (.int .i64 x5.2) ∧ t 11 = .ssl (encs c97 x7.1) x7.1.length false ∧ t 12 = .sc (.int .i64 x7.2) ∧ t 80 = .sc (.bool v11)) (fun J hJ => ?_) ?_
    · simp [-splice, f0, f1, f2, f7, f8, f11, f12, f79]
      exact hJ _ _ _ ⟨by simp [f0], by simp [f1], by simp [f2], by simp [f7], by simp [f8], by simp [f11], by simp [f12], by simp [-splice, f0, f1, f2, f7, f8, f11, f12, f79]⟩
    clear f0 f1 f2 f7 f8 f11 f12 f79
    rintro t H n ⟨f0, f1, f2, f7, f8, f11, f12, f80⟩
    obtain ⟨K4, hK4, h⟩ := jnd h
    refine Stk.jo 4 (fun t H n => ∃ v13 : Bool, K4 v13 = some r ∧ t 0 = .ssl (encs c97 a0) a0.length false ∧ t 1 = .ssl (encs c97 a1) a1.length false ∧ t 2 = .ssl (encs c97 a2) a2.length false ∧ t 7 = .ssl (encs c97 x5.1) x5.1.length false ∧ t 8 = .sc (.int .i64 x5.2) ∧ t 11 = .ssl (encs c97 x7.1) x7.1.length false ∧ t 12 = .sc (.int .i64 x7.2) ∧ t 84 = .sc (.bool v13)) (fun J4 hJ4 => ?_) ?_
    · rcases Bool.eq_false_or_eq_true v11 with hb4 | hb4
      · rw [hb4] at f80
        replace h := cT hb4 h
        refine Stk.run 4 (fun t H n => t 0 = .ssl (encs c97 a0) a0.length false ∧ t 1 = .ssl (encs c97 a1) a1.length false ∧ t 2 = .ssl (encs c97 a2) a2.length false ∧ t 7 = .ssl (encs c97 x5.1) x5.1.length false ∧ t 8 = .sc (.int .i64 x5.2) ∧ t 11 = .ssl (encs c97 x7.1) x7.1.length false ∧ t 12 = .sc (.int .i64 x7.2) ∧ t 84 = .sc (.bool true)) (fun J hJ => ?_) ?_
        · simp [-splice, f0, f1, f2, f7, f8, f11, f12, f80]
          exact hJ _ _ _ ⟨by simp [f0], by simp [f1], by simp [f2], by simp [f7], by simp [f8], by simp [f11], by simp [f12], by simp [-splice, f0, f1, f2, f7, f8, f11, f12, f80]⟩
        clear f0 f1 f2 f7 f8 f11 f12 f80
        rintro t H n ⟨f0, f1, f2, f7, f8, f11, f12, f84⟩
        refine Stk.on ?_
        exact Stk.ln 0 (by decide) (hJ4 _ _ _ ⟨true, h, f0, f1, f2, f7, f8, f11, f12, f84⟩)
      · rw [hb4] at f80
        replace h := cF hb4 h
        refine Stk.run 1 (fun t H n => t 0 = .ssl (encs c97 a0) a0.length false ∧ t 1 = .ssl (encs c97 a1) a1.length false ∧ t 2 = .ssl (encs c97 a2) a2.length false ∧ t 7 = .ssl (encs c97 x5.1) x5.1.length false ∧ t 8 = .sc (.int .i64 x5.2) ∧ t 11 = .ssl (encs c97 x7.1) x7.1.length false ∧ t 12 = .sc (.int .i64 x7.2) ∧ t 80 = .sc (.bool false) ∧ t 81 = .ssl (encs c97 x5.1) x5.1.length false) (fun J hJ => ?_) ?_
        · simp [-splice, f0, f1, f2, f7, f8, f11, f12, f80]
          exact hJ _ _ _ ⟨by simp [f0], by simp [f1], by simp [f2], by simp [f7], by simp [f8], by simp [f11], by simp [f12], by simp [f80], by simp [-splice, f0, f1, f2, f7, f8, f11, f12, f80]⟩
        clear f0 f1 f2 f7 f8 f11 f12 f80
        rintro t H n ⟨f0, f1, f2, f7, f8, f11, f12, f80, f81⟩
        obtain ⟨x14, hx14, h⟩ := bnd h
        refine Stk.cv (g := 23) (args := [.ssl (encs c97 x5.1) x5.1.length false]) (args' := [.ssl (encs c97 x5.1) x5.1.length false]) (v := .sc (.bool x14)) [] (ok_R13_Fit F _ _ hx14) (by simp [f0, f1, f2, f7, f8, f11, f12, f80, f81]) rfl rfl (by simp [f0, f1, f2, f7, f8, f11, f12, f80, f81]) (.cons (.free (freeL_encs fr97 _)) (.nil)) (.inl ⟨rfl, rfl⟩) (fun t' ht' => ?_)
        refine Stk.gen (fun t H n => t 0 = .ssl (encs c97 a0) a0.length false ∧ t 1 = .ssl (encs c97 a1) a1.length false ∧ t 2 = .ssl (encs c97 a2) a2.length false ∧ t 7 = .ssl (encs c97 x5.1) x5.1.length false ∧ t 8 = .sc (.int .i64 x5.2) ∧ t 11 = .ssl (encs c97 x7.1) x7.1.length false ∧ t 12 = .sc (.int .i64 x7.2) ∧ t 80 = .sc (.bool false) ∧ t 82 = .sc (.bool x14)) ⟨by simp [ht', f0], by simp [ht', f1], by simp [ht', f2], by simp [ht', f7], by simp [ht', f8], by simp [ht', f11], by simp [ht', f12], by simp [ht', f80], by simp [ht']⟩ ?_
        clear f0 f1 f2 f7 f8 f11 f12 f80 f81 ht' t'
        rintro t H n ⟨f0, f1, f2, f7, f8, f11, f12, f80, f82⟩
        refine Stk.run 2 (fun t H n => t 0 = .ssl (encs c97 a0) a0.length false ∧ t 1 = .ssl (encs c97 a1) a1.length false ∧ t 2 = .ssl (encs c97 a2) a2.length false ∧ t 7 = .ssl (encs c97 x5.1) x5.1.length false ∧ t 8 = .sc (.int .i64 x5.2) ∧ t 11 = .ssl (encs c97 x7.1) x7.1.length false ∧ t 12 = .sc (.int .i64 x7.2) ∧ t 84 = .sc (.bool (!x14))) (fun J hJ => ?_) ?_
        · simp [-splice, f0, f1, f2, f7, f8, f11, f12, f80, f82]
          exact hJ _ _ _ ⟨by simp [f0], by simp [f1], by simp [f2], by simp [f7], by simp [f8], by simp [f11], by simp [f12], by simp [-splice, f0, f1, f2, f7, f8, f11, f12, f80, f82]⟩
        clear f0 f1 f2 f7 f8 f11 f12 f80 f82
        rintro t H n ⟨f0, f1, f2, f7, f8, f11, f12, f84⟩
        refine Stk.on ?_
        exact Stk.ln 0 (by decide) (hJ4 _ _ _ ⟨(!x14), h, f0, f1, f2, f7, f8, f11, f12, f84⟩)
    clear h f0 f1 f2 f7 f8 f11 f12 f80
    rintro t H n ⟨v13, h, f0, f1, f2, f7, f8, f11, f12, f84⟩
    subst hK4
    refine Stk.run 1 (fun t H n => t 0 = .ssl (encs c97 a0) a0.length false ∧ t 1 = .ssl (encs c97 a1) a1.length false ∧ t 2 = .ssl (encs c97 a2) a2.length false ∧ t 7 = .ssl (encs c97 x5.1) x5.1.length false ∧ t 8 = .sc (.int .i64 x5.2) ∧ t 11 = .ssl (encs c97 x7.1) x7.1.length false ∧ t 12 = .sc (.int .i64 x7.2) ∧ t 85 = .sc (.bool v13)) (fun J hJ => ?_) ?_
    · simp [-splice, f0, f1, f2, f7, f8, f11, f12, f84]
      exact hJ _ _ _ ⟨by simp [f0], by simp [f1], by simp [f2], by simp [f7], by simp [f8], by simp [f11], by simp [f12], by simp [-splice, f0, f1, f2, f7, f8, f11, f12, f84]⟩
    clear f0 f1 f2 f7 f8 f11 f12 f84
    rintro t H n ⟨f0, f1, f2, f7, f8, f11, f12, f85⟩
    obtain ⟨K5, hK5, h⟩ := jnd h
    refine Stk.jo 4 (fun t H n => ∃ v15 : Bool, K5 v15 = some r ∧ t 0 = .ssl (encs c97 a0) a0.length false ∧ t 1 = .ssl (encs c97 a1) a1.length false ∧ t 2 = .ssl (encs c97 a2) a2.length false ∧ t 7 = .ssl (encs c97 x5.1) x5.1.length false ∧ t 8 = .sc (.int .i64 x5.2) ∧ t 11 = .ssl (encs c97 x7.1) x7.1.length false ∧ t 12 = .sc (.int .i64 x7.2) ∧ t 89 = .sc (.bool v15)) (fun J5 hJ5 => ?_) ?_
    · rcases Bool.eq_false_or_eq_true v13 with hb5 | hb5
      · rw [hb5] at f85
        replace h := cT hb5 h
        refine Stk.run 4 (fun t H n => t 0 = .ssl (encs c97 a0) a0.length false ∧ t 1 = .ssl (encs c97 a1) a1.length false ∧ t 2 = .ssl (encs c97 a2) a2.length false ∧ t 7 = .ssl (encs c97 x5.1) x5.1.length false ∧ t 8 = .sc (.int .i64 x5.2) ∧ t 11 = .ssl (encs c97 x7.1) x7.1.length false ∧ t 12 = .sc (.int .i64 x7.2) ∧ t 89 = .sc (.bool true)) (fun J hJ => ?_) ?_
        · simp [-splice, f0, f1, f2, f7, f8, f11, f12, f85]
          exact hJ _ _ _ ⟨by simp [f0], by simp [f1], by simp [f2], by simp [f7], by simp [f8], by simp [f11], by simp [f12], by simp [-splice, f0, f1, f2, f7, f8, f11, f12, f85]⟩
        clear f0 f1 f2 f7 f8 f11 f12 f85
        rintro t H n ⟨f0, f1, f2, f7, f8, f11, f12, f89⟩
        refine Stk.on ?_
        exact Stk.ln 0 (by decide) (hJ5 _ _ _ ⟨true, h, f0, f1, f2, f7, f8, f11, f12, f89⟩)
      · rw [hb5] at f85
        replace h := cF hb5 h
        refine Stk.run 1 (fun t H n => t 0 = .ssl (encs c97 a0) a0.length false ∧ t 1 = .ssl (encs c97 a1) a1.length false ∧ t 2 = .ssl (encs c97 a2) a2.length false ∧ t 7 = .ssl (encs c97 x5.1) x5.1.length false ∧ t 8 = .sc (.int .i64 x5.2) ∧ t 11 = .ssl (encs c97 x7.1) x7.1.length false ∧ t 12 = .sc (.int .i64 x7.2) ∧ t 85 = .sc (.bool false) ∧ t 86 = .ssl (encs c97 x7.1) x7.1.length false) (fun J hJ => ?_) ?_
        · simp [-splice, f0, f1, f2, f7, f8, f11, f12, f85]
          exact hJ _ _ _ ⟨by simp [f0], by simp [f1], by simp [f2], by simp [f7], by simp [f8], by simp [f11], by simp [f12], by simp [f85], by simp [-splice, f0, f1, f2, f7, f8, f11, f12, f85]⟩
        clear f0 f1 f2 f7 f8 f11 f12 f85
        rintro t H n ⟨f0, f1, f2, f7, f8, f11, f12, f85, f86⟩
        obtain ⟨x16, hx16, h⟩ := bnd h
        refine Stk.cv (g := 23) (args := [.ssl (encs c97 x7.1) x7.1.length false]) (args' := [.ssl (encs c97 x7.1) x7.1.length false]) (v := .sc (.bool x16)) [] (ok_R13_Fit F _ _ hx16) (by simp [f0, f1, f2, f7, f8, f11, f12, f85, f86]) rfl rfl (by simp [f0, f1, f2, f7, f8, f11, f12, f85, f86]) (.cons (.free (freeL_encs fr97 _)) (.nil)) (.inl ⟨rfl, rfl⟩) (fun t' ht' => ?_)
        refine Stk.gen (fun t H n => t 0 = .ssl (encs c97 a0) a0.length false ∧ t 1 = .ssl (encs c97 a1) a1.length false ∧ t 2 = .ssl (encs c97 a2) a2.length false ∧ t 7 = .ssl (encs c97 x5.1) x5.1.length false ∧ t 8 = .sc (.int .i64 x5.2) ∧ t 11 = .ssl (encs c97 x7.1) x7.1.length false ∧ t 12 = .sc (.int .i64 x7.2) ∧ t 85 = .sc (.bool false) ∧ t 87 = .sc (.bool x16)) ⟨by simp [ht', f0], by simp [ht', f1], by simp [ht', f2], by simp [ht', f7], by simp [ht', f8], by simp [ht', f11], by simp [ht', f12], by simp [ht', f85], by simp [ht']⟩ ?_
        clear f0 f1 f2 f7 f8 f11 f12 f85 f86 ht' t'
        rintro t H n ⟨f0, f1, f2, f7, f8, f11, f12, f85, f87⟩
        refine Stk.run 2 (fun t H n => t 0 = .ssl (encs c97 a0) a0.length false ∧ t 1 = .ssl (encs c97 a1) a1.length false ∧ t 2 = .ssl (encs c97 a2) a2.length false ∧ t 7 = .ssl (encs c97 x5.1) x5.1.length false ∧ t 8 = .sc (.int .i64 x5.2) ∧ t 11 = .ssl (encs c97 x7.1) x7.1.length false ∧ t 12 = .sc (.int .i64 x7.2) ∧ t 89 = .sc (.bool (!x16))) (fun J hJ => ?_) ?_
        · simp [-splice, f0, f1, f2, f7, f8, f11, f12, f85, f87]
          exact hJ _ _ _ ⟨by simp [f0], by simp [f1], by simp [f2], by simp [f7], by simp [f8], by simp [f11], by simp [f12], by simp [-splice, f0, f1, f2, f7, f8, f11, f12, f85, f87]⟩
        clear f0 f1 f2 f7 f8 f11 f12 f85 f87
        rintro t H n ⟨f0, f1, f2, f7, f8, f11, f12, f89⟩
        refine Stk.on ?_
        exact Stk.ln 0 (by decide) (hJ5 _ _ _ ⟨(!x16), h, f0, f1, f2, f7, f8, f11, f12, f89⟩)
    clear h f0 f1 f2 f7 f8 f11 f12 f85
    rintro t H n ⟨v15, h, f0, f1, f2, f7, f8, f11, f12, f89⟩
    subst hK5
    refine Stk.on ?_
    refine Stk.cond v15 (by exact f89) (fun hb17 => ?_) (fun hb17 => ?_)
    · have h := cT hb17 h
      refine Stk.sq ?_
      refine Stk.rg ?_
      refine Stk.run 1 (fun t H n => t 6 = .sc (.bool false)) (fun J hJ => ?_) ?_
      · simp [-splice, f0, f1, f2, f7, f8, f11, f12, f89]
        exact hJ _ _ _ (by simp [-splice, f0, f1, f2, f7, f8, f11, f12, f89])
      clear f0 f1 f2 f7 f8 f11 f12 f89
      rintro t H n f6
      refine Stk.on ?_
      refine Stk.rt ?_
      have hq := Option.some.inj h; subst hq
      exact (hr _ _ _ (.sc (.bool false)) ([]) (by simp [f6]) (.inr (.inr (.free (rfl))))).1
    · have h := cF hb17 h
      refine Stk.sk ?_
      refine Stk.sq ?_
      refine Stk.rg ?_
      refine Stk.run 2 (fun t H n => t 0 = .ssl (encs c97 a0) a0.length false ∧ t 1 = .ssl (encs c97 a1) a1.length false ∧ t 2 = .ssl (encs c97 a2) a2.length false ∧ t 8 = .sc (.int .i64 x5.2) ∧ t 11 = .ssl (encs c97 x7.1) x7.1.length false ∧ t 12 = .sc (.int .i64 x7.2) ∧ t 91 = .ssl (encs c97 x5.1) x5.1.length false ∧ t 92 = .ssl (encs c97 a2) a2.length false) (fun J hJ => ?_) ?_
      · simp [-splice, f0, f1, f2, f7, f8, f11, f12, f89]
        exact hJ _ _ _ ⟨by simp [f0], by simp [f1], by simp [f2], by simp [f8], by simp [f11], by simp [f12], by simp [-splice, f0, f1, f2, f7, f8, f11, f12, f89], by simp [-splice, f0, f1, f2, f7, f8, f11, f12, f89]⟩
      clear f0 f1 f2 f7 f8 f11 f12 f89
      rintro t H n ⟨f0, f1, f2, f8, f11, f12, f91, f92⟩
      obtain ⟨x18, hx18, h⟩ := bnd h
      refine Stk.cv (g := 21) (args := [.ssl (encs c97 x5.1) x5.1.length false, .ssl (encs c97 a2) a2.length false]) (args' := [.ssl (encs c97 x5.1) x5.1.length false, .ssl (encs c97 a2) a2.length false]) (v := .tup [.ssl (encs c97 x18.1) x18.1.length false, .sc (.int .i64 x18.2)]) [] (ok_poly_Mul F _ _ _ hx18) (by simp [f0, f1, f2, f8, f11, f12, f91, f92]) rfl rfl (by simp [f0, f1, f2, f8, f11, f12, f91, f92]) (.cons (.free (freeL_encs fr97 _)) (.cons (.free (freeL_encs fr97 _)) (.nil))) (.inl ⟨rfl, by simp [free, freeL, freeL_encs fr97]⟩) (fun t' ht' => ?_)
      refine Stk.gen (fun t H n => t 0 = .ssl (encs c97 a0) a0.length false ∧ t 1 = .ssl (encs c97 a1) a1.length false ∧ t 2 = .ssl (encs c97 a2) a2.length false ∧ t 8 = .sc (.int .i64 x5.2) ∧ t 11 = .ssl (encs c97 x7.1) x7.1.length false ∧ t 12 = .sc (.int .i64 x7.2) ∧ t 93 = .tup [.ssl (encs c97 x18.1) x18.1.length false, .sc (.int .i64 x18.2)]) ⟨by simp [ht', f0], by simp [ht', f1], by simp [ht', f2], by simp [ht', f8], by simp [ht', f11], by simp [ht', f12], by simp [ht']⟩ ?_
      clear f0 f1 f2 f8 f11 f12 f91 f92 ht' t'
      rintro t H n ⟨f0, f1, f2, f8, f11, f12, f93⟩
      refine Stk.run 5 (fun t H n => t 0 = .ssl (encs c97 a0) a0.length false ∧ t 1 = .ssl (encs c97 a1) a1.length false ∧ t 2 = .ssl (encs c97 a2) a2.length false ∧ t 8 = .sc (.int .i64 x5.2) ∧ t 11 = .ssl (encs c97 x7.1) x7.1.length false ∧ t 12 = .sc (.int .i64 x7.2) ∧ t 15 = .ssl (encs c97 x18.1) x18.1.length false ∧ t 16 = .sc (.int .i64 x18.2)) (fun J hJ => ?_) ?_
      · simp [-splice, f0, f1, f2, f8, f11, f12, f93]
        exact hJ _ _ _ ⟨by simp [f0], by simp [f1], by simp [f2], by simp [f8], by simp [f11], by simp [f12], by simp [-splice, f0, f1, f2, f8, f11, f12, f93], by simp [-splice, f0, f1, f2, f8, f11, f12, f93]⟩
      clear f0 f1 f2 f8 f11 f12 f93
      rintro t H n ⟨f0, f1, f2, f8, f11, f12, f15, f16⟩
      refine Stk.on ?_
      refine Stk.sq ?_
      refine Stk.rg ?_
      refine Stk.run 2 (fun t H n => t 0 = .ssl (encs c97 a0) a0.length false ∧ t 1 = .ssl (encs c97 a1) a1.length false ∧ t 2 = .ssl (encs c97 a2) a2.length false ∧ t 8 = .sc (.int .i64 x5.2) ∧ t 11 = .ssl (encs c97 x7.1) x7.1.length false ∧ t 12 = .sc (.int .i64 x7.2) ∧ t 15 = .ssl (encs c97 x18.1) x18.1.length false ∧ t 16 = .sc (.int .i64 x18.2) ∧ t 97 = .ssl (encs c97 a0) a0.length false ∧ t 98 = .ssl (encs c97 a2) a2.length false) (fun J hJ => ?_) ?_
      · simp [-splice, f0, f1, f2, f8, f11, f12, f15, f16]
        exact hJ _ _ _ ⟨by simp [f0], by simp [f1], by simp [f2], by simp [f8], by simp [f11], by simp [f12], by simp [f15], by simp [f16], by simp [-splice, f0, f1, f2, f8, f11, f12, f15, f16], by simp [-splice, f0, f1, f2, f8, f11, f12, f15, f16]⟩
      clear f0 f1 f2 f8 f11 f12 f15 f16
      rintro t H n ⟨f0, f1, f2, f8, f11, f12, f15, f16, f97, f98⟩
      obtain ⟨x19, hx19, h⟩ := bnd h
      refine Stk.cv (g := 21) (args := [.ssl (encs c97 a0) a0.length false, .ssl (encs c97 a2) a2.length false]) (args' := [.ssl (encs c97 a0) a0.length false, .ssl (encs c97 a2) a2.length false]) (v := .tup [.ssl (encs c97 x19.1) x19.1.length false, .sc (.int .i64 x19.2)]) [] (ok_poly_Mul F _ _ _ hx19) (by simp [f0, f1, f2, f8, f11, f12, f15, f16, f97, f98]) rfl rfl (by simp [f0, f1, f2, f8, f11, f12, f15, f16, f97, f98]) (.cons (.free (freeL_encs fr97 _)) (.cons (.free (freeL_encs fr97 _)) (.nil))) (.inl ⟨rfl, by simp [free, freeL, freeL_encs fr97]⟩) (fun t' ht' => ?_)
      refine Stk.gen (fun t H n => t 0 = .ssl (encs c97 a0) a0.length false ∧ t 1 = .ssl (encs c97 a1) a1.length false ∧ t 2 = .ssl (encs c97 a2) a2.length false ∧ t 8 = .sc (.int .i64 x5.2) ∧ t 11 = .ssl (encs c97 x7.1) x7.1.length false ∧ t 12 = .sc (.int .i64 x7.2) ∧ t 15 = .ssl (encs c97 x18.1) x18.1.length false ∧ t 16 = .sc (.int .i64 x18.2) ∧ t 99 = .tup [.ssl (encs c97 x19.1) x19.1.length false, .sc (.int .i64 x19.2)]) ⟨by simp [ht', f0], by simp [ht', f1], by simp [ht', f2], by simp [ht', f8], by simp [ht', f11], by simp [ht', f12], by simp [ht', f15], by simp [ht', f16], by simp [ht']⟩ ?_
      clear f0 f1 f2 f8 f11 f12 f15 f16 f97 f98 ht' t'
      rintro t H n ⟨f0, f1, f2, f8, f11, f12, f15, f16, f99⟩
      refine Stk.run 5 (fun t H n => t 0 = .ssl (encs c97 a0) a0.length false ∧ t 1 = .ssl (encs c97 a1) a1.length false ∧ t 2 = .ssl (encs c97 a2) a2.length false ∧ t 8 = .sc (.int .i64 x5.2) ∧ t 11 = .ssl (encs c97 x7.1) x7.1.length false ∧ t 12 = .sc (.int .i64 x7.2) ∧ t 15 = .ssl (encs c97 x18.1) x18.1.length false ∧ t 16 = .sc (.int .i64 x18.2) ∧ t 17 = .ssl (encs c97 x19.1) x19.1.length false ∧ t 18 = .sc (.int .i64 x19.2)) (fun J hJ => ?_) ?_
      · simp [-splice, f0, f1, f2, f8, f11, f12, f15, f16, f99]
        exact hJ _ _ _ ⟨by simp [f0], by simp [f1], by simp [f2], by simp [f8], by simp [f11], by simp [f12], by simp [f15], by simp [f16], by simp [-splice, f0, f1, f2, f8, f11, f12, f15, f16, f99], by simp [-splice, f0, f1, f2, f8, f11, f12, f15, f16, f99]⟩
      clear f0 f1 f2 f8 f11 f12 f15 f16 f99
      rintro t H n ⟨f0, f1, f2, f8, f11, f12, f15, f16, f17, f18⟩
      refine Stk.on ?_
      refine Stk.sq ?_
      refine Stk.rg ?_
      refine Stk.run 2 (fun t H n => t 0 = .ssl (encs c97 a0) a0.length false ∧ t 1 = .ssl (encs c97 a1) a1.length false ∧ t 2 = .ssl (encs c97 a2) a2.length false ∧ t 8 = .sc (.int .i64 x5.2) ∧ t 11 = .ssl (encs c97 x7.1) x7.1.length false ∧ t 12 = .sc (.int .i64 x7.2) ∧ t 15 = .ssl (encs c97 x18.1) x18.1.length false ∧ t 16 = .sc (.int .i64 x18.2) ∧ t 17 = .ssl (encs c97 x19.1) x19.1.length false ∧ t 18 = .sc (.int .i64 x19.2) ∧ t 103 = .ssl (encs c97 a1) a1.length false ∧ t 104 = .ssl (encs c97 a2) a2.length false) (fun J hJ => ?_) ?_
      · simp [-splice, f0, f1, f2, f8, f11, f12, f15, f16, f17, f18]
        exact hJ _ _ _ ⟨by simp [f0], by simp [f1], by simp [f2], by simp [f8], by simp [f11], by simp [f12], by simp [f15], by simp [f16], by simp [f17], by simp [f18], by simp [-splice, f0, f1, f2, f8, f11, f12, f15, f16, f17, f18], by simp [-splice, f0, f1, f2, f8, f11, f12, f15, f16, f17, f18]⟩
      clear f0 f1 f2 f8 f11 f12 f15 f16 f17 f18
      rintro t H n ⟨f0, f1, f2, f8, f11, f12, f15, f16, f17, f18, f103, f104⟩
      obtain ⟨x20, hx20, h⟩ := bnd h
      refine Stk.cv (g := 21) (args := [.ssl (encs c97 a1) a1.length false, .ssl (encs c97 a2) a2.length false]) (args' := [.ssl (encs c97 a1) a1.length false, .ssl (encs c97 a2) a2.length false]) (v := .tup [.ssl (encs c97 x20.1) x20.1.length false, .sc (.int .i64 x20.2)]) [] (ok_poly_Mul F _ _ _ hx20) (by simp [f0, f1, f2, f8, f11, f12, f15, f16, f17, f18, f103, f104]) rfl rfl (by simp [f0, f1, f2, f8, f11, f12, f15, f16, f17, f18, f103, f104]) (.cons (.free (freeL_encs fr97 _)) (.cons (.free (freeL_encs fr97 _)) (.nil))) (.inl ⟨rfl, by simp [free, freeL, freeL_encs fr97]⟩) (fun t' ht' => ?_)
      refine Stk.gen (fun t H n => t 0 = .ssl (encs c97 a0) a0.length false ∧ t 1 = .ssl (encs c97 a1) a1.length false ∧ t 2 = .ssl (encs c97 a2) a2.length false ∧ t 8 = .sc (.int .i64 x5.2) ∧ t 11 = .ssl (encs c97 x7.1) x7.1.length false ∧ t 12 = .sc (.int .i64 x7.2) ∧ t 15 = .ssl (encs c97 x18.1) x18.1.length false ∧ t 16 = .sc (.int .i64 x18.2) ∧ t 17 = .ssl (encs c97 x19.1) x19.1.length false ∧ t 18 = .sc (.int .i64 x19.2) ∧ t 105 = .tup [.ssl (encs c97 x20.1) x20.1.length false, .sc (.int .i64 x20.2)]) ⟨by simp [ht', f0], by simp [ht', f1], by simp [ht', f2], by simp [ht', f8], by simp [ht', f11], by simp [ht', f12], by simp [ht', f15], by simp [ht', f16], by simp [ht', f17], by simp [ht', f18], by simp [ht']⟩ ?_
      clear f0 f1 f2 f8 f11 f12 f15 f16 f17 f18 f103 f104 ht' t'
      rintro t H n ⟨f0, f1, f2, f8, f11, f12, f15, f16, f17, f18, f105⟩
      refine Stk.run 5 (fun t H n => t 0 = .ssl (encs c97 a0) a0.length false ∧ t 1 = .ssl (encs c97 a1) a1.length false ∧ t 2 = .ssl (encs c97 a2) a2.length false ∧ t 8 = .sc (.int .i64 x5.2) ∧ t 11 = .ssl (encs c97 x7.1) x7.1.length false ∧ t 12 = .sc (.int .i64 x7.2) ∧ t 15 = .ssl (encs c97 x18.1) x18.1.length false ∧ t 16 = .sc (.int .i64 x18.2) ∧ t 17 = .ssl (encs c97 x19.1) x19.1.length false ∧ t 18 = .sc (.int .i64 x19.2) ∧ t 19 = .ssl (encs c97 x20.1) x20.1.length false ∧ t 20 = .sc (.int .i64 x20.2)) (fun J hJ => ?_) ?_
      · simp [-splice, f0, f1, f2, f8, f11, f12, f15, f16, f17, f18, f105]
        exact hJ _ _ _ ⟨by simp [f0], by simp [f1], by simp [f2], by simp [f8], by simp [f11], by simp [f12], by simp [f15], by simp [f16], by simp [f17], by simp [f18], by simp [-splice, f0, f1, f2, f8, f11, f12, f15, f16, f17, f18, f105], by simp [-splice, f0, f1, f2, f8, f11, f12, f15, f16, f17, f18, f105]⟩
      clear f0 f1 f2 f8 f11 f12 f15 f16 f17 f18 f105
      rintro t H n ⟨f0, f1, f2, f8, f11, f12, f15, f16, f17, f18, f19, f20⟩
      refine Stk.on ?_
      refine Stk.sq ?_
      refine Stk.rg ?_
      refine Stk.run 2 (fun t H n => t 0 = .ssl (encs c97 a0) a0.length false ∧ t 1 = .ssl (encs c97 a1) a1.length false ∧ t 2 = .ssl (encs c97 a2) a2.length false ∧ t 8 = .sc (.int .i64 x5.2) ∧ t 11 = .ssl (encs c97 x7.1) x7.1.length false ∧ t 12 = .sc (.int .i64 x7.2) ∧ t 15 = .ssl (encs c97 x18.1) x18.1.length false ∧ t 16 = .sc (.int .i64 x18.2) ∧ t 18 = .sc (.int .i64 x19.2) ∧ t 20 = .sc (.int .i64 x20.2) ∧ t 109 = .ssl (encs c97 x19.1) x19.1.length false ∧ t 110 = .ssl (encs c97 x20.1) x20.1.length false) (fun J hJ => ?_) ?_
      · simp [-splice, f0, f1, f2, f8, f11, f12, f15, f16, f17, f18, f19, f20]
        exact hJ _ _ _ ⟨by simp [f0], by simp [f1], by simp [f2], by simp [f8], by simp [f11], by simp [f12], by simp [f15], by simp [f16], by simp [f18], by simp [f20], by simp [-splice, f0, f1, f2, f8, f11, f12, f15, f16, f17, f18, f19, f20], by simp [-splice, f0, f1, f2, f8, f11, f12, f15, f16, f17, f18, f19, f20]⟩
      clear f0 f1 f2 f8 f11 f12 f15 f16 f17 f18 f19 f20
      rintro t H n ⟨f0, f1, f2, f8, f11, f12, f15, f16, f18, f20, f109, f110⟩
      obtain ⟨x21, hx21, h⟩ := bnd h
      refine Stk.cv (g := 20) (args := [.ssl (encs c97 x19.1) x19.1.length false, .ssl (encs c97 x20.1) x20.1.length false]) (args' := [.ssl (encs c97 x19.1) x19.1.length false, .ssl (encs c97 x20.1) x20.1.length false]) (v := .tup [.ssl (encs c97 x21.1) x21.1.length false, .sc (.int .i64 x21.2)]) [] (ok_poly_Add F _ _ _ hx21) (by simp [f0, f1, f2, f8, f11, f12, f15, f16, f18, f20, f109, f110]) rfl rfl (by simp [f0, f1, f2, f8, f11, f12, f15, f16, f18, f20, f109, f110]) (.cons (.free (freeL_encs fr97 _)) (.cons (.free (freeL_encs fr97 _)) (.nil))) (.inl ⟨rfl, by simp [free, freeL, freeL_encs fr97]⟩) (fun t' ht' => ?_)
      refine Stk.gen (fun t H n => t 0 = .ssl (encs c97 a0) a0.length false ∧ t 1 = .ssl (encs c97 a1) a1.length false ∧ t 2 = .ssl (encs c97 a2) a2.length false ∧ t 8 = .sc (.int .i64 x5.2) ∧ t 11 = .ssl (encs c97 x7.1) x7.1.length false ∧ t 12 = .sc (.int .i64 x7.2) ∧ t 15 = .ssl (encs c97 x18.1) x18.1.length false ∧ t 16 = .sc (.int .i64 x18.2) ∧ t 18 = .sc (.int .i64 x19.2) ∧ t 20 = .sc (.int .i64 x20.2) ∧ t 111 = .tup [.ssl (encs c97 x21.1) x21.1.length false, .sc (.int .i64 x21.2)]) ⟨by simp [ht', f0], by simp [ht', f1], by simp [ht', f2], by simp [ht', f8], by simp [ht', f11], by simp [ht', f12], by simp [ht', f15], by simp [ht', f16], by simp [ht', f18], by simp [ht', f20], by simp [ht']⟩ ?_
      clear f0 f1 f2 f8 f11 f12 f15 f16 f18 f20 f109 f110 ht' t'
      rintro t H n ⟨f0, f1, f2, f8, f11, f12, f15, f16, f18, f20, f111⟩
      refine Stk.run 5 (fun t H n => t 0 = .ssl (encs c97 a0) a0.length false ∧ t 1 = .ssl (encs c97 a1) a1.length false ∧ t 2 = .ssl (encs c97 a2) a2.length false ∧ t 8 = .sc (.int .i64 x5.2) ∧ t 11 = .ssl (encs c97 x7.1) x7.1.length false ∧ t 12 = .sc (.int .i64 x7.2) ∧ t 15 = .ssl (encs c97 x18.1) x18.1.length false ∧ t 16 = .sc (.int .i64 x18.2) ∧ t 18 = .sc (.int .i64 x19.2) ∧ t 20 = .sc (.int .i64 x20.2) ∧ t 21 = .ssl (encs c97 x21.1) x21.1.length false ∧ t 22 = .sc (.int .i64 x21.2)) (fun J hJ => ?_) ?_
      · simp [-splice, f0, f1, f2, f8, f11, f12, f15, f16, f18, f20, f111]
        exact hJ _ _ _ ⟨by simp [f0], by simp [f1], by simp [f2], by simp [f8], by simp [f11], by simp [f12], by simp [f15], by simp [f16], by simp [f18], by simp [f20], by simp [-splice, f0, f1, f2, f8, f11, f12, f15, f16, f18, f20, f111], by simp [-splice, f0, f1, f2, f8, f11, f12, f15, f16, f18, f20, f111]⟩
      clear f0 f1 f2 f8 f11 f12 f15 f16 f18 f20 f111
      rintro t H n ⟨f0, f1, f2, f8, f11, f12, f15, f16, f18, f20, f21, f22⟩
      refine Stk.on ?_
      refine Stk.sq ?_
      refine Stk.sq ?_
      refine Stk.rg ?_
      refine Stk.run 3 (fun t H n => t 0 = .ssl (encs c97 a0) a0.length false ∧ t 1 = .ssl (encs c97 a1) a1.length false ∧ t 2 = .ssl (encs c97 a2) a2.length false ∧ t 11 = .ssl (encs c97 x7.1) x7.1.length false ∧ t 12 = .sc (.int .i64 x7.2) ∧ t 15 = .ssl (encs c97 x18.1) x18.1.length false ∧ t 16 = .sc (.int .i64 x18.2) ∧ t 18 = .sc (.int .i64 x19.2) ∧ t 20 = .sc (.int .i64 x20.2) ∧ t 21 = .ssl (encs c97 x21.1) x21.1.length false ∧ t 22 = .sc (.int .i64 x21.2) ∧ t 116 = .sc (.bool (x5.2 == 0))) (fun J hJ => ?_) ?_
      · simp [-splice, f0, f1, f2, f8, f11, f12, f15, f16, f18, f20, f21, f22]
        exact hJ _ _ _ ⟨by simp [f0], by simp [f1], by simp [f2], by simp [f11], by simp [f12], by simp [f15], by simp [f16], by simp [f18], by simp [f20], by simp [f21], by simp [f22], by simp [-splice, f0, f1, f2, f8, f11, f12, f15, f16, f18, f20, f21, f22]⟩
      clear f0 f1 f2 f8 f11 f12 f15 f16 f18 f20 f21 f22
      rintro t H n ⟨f0, f1, f2, f11, f12, f15, f16, f18, f20, f21, f22, f116⟩
      refine Stk.jo 3 (fun t H n => t 0 = .ssl (encs c97 a0) a0.length false ∧ t 1 = .ssl (encs c97 a1) a1.length false ∧ t 2 = .ssl (encs c97 a2) a2.length false ∧ t 11 = .ssl (encs c97 x7.1) x7.1.length false ∧ t 12 = .sc (.int .i64 x7.2) ∧ t 15 = .ssl (encs c97 x18.1) x18.1.length false ∧ t 18 = .sc (.int .i64 x19.2) ∧ t 20 = .sc (.int .i64 x20.2) ∧ t 21 = .ssl (encs c97 x21.1) x21.1.length false ∧ t 22 = .sc (.int .i64 x21.2) ∧ t 119 = .sc (.bool ((x5.2 == 0) && (x18.2 == 0)))) (fun J6 hJ6 => ?_) ?_
      · rcases Bool.eq_false_or_eq_true (x5.2 == 0) with hb6 | hb6
        · rw [hb6] at f116
          refine Stk.run 3 (fun t H n => t 0 = .ssl (encs c97 a0) a0.length false ∧ t 1 = .ssl (encs c97 a1) a1.length false ∧ t 2 = .ssl (encs c97 a2) a2.length false ∧ t 11 = .ssl (encs c97 x7.1) x7.1.length false ∧ t 12 = .sc (.int .i64 x7.2) ∧ t 15 = .ssl (encs c97 x18.1) x18.1.length false ∧ t 18 = .sc (.int .i64 x19.2) ∧ t 20 = .sc (.int .i64 x20.2) ∧ t 21 = .ssl (encs c97 x21.1) x21.1.length false ∧ t 22 = .sc (.int .i64 x21.2) ∧ t 119 = .sc (.bool (x18.2 == 0))) (fun J hJ => ?_) ?_
          · simp [-splice, f0, f1, f2, f11, f12, f15, f16, f18, f20, f21, f22, f116]
            exact hJ _ _ _ ⟨by simp [f0], by simp [f1], by simp [f2], by simp [f11], by simp [f12], by simp [f15], by simp [f18], by simp [f20], by simp [f21], by simp [f22], by simp [-splice, f0, f1, f2, f11, f12, f15, f16, f18, f20, f21, f22, f116]⟩
          clear f0 f1 f2 f11 f12 f15 f16 f18 f20 f21 f22 f116
          rintro t H n ⟨f0, f1, f2, f11, f12, f15, f18, f20, f21, f22, f119⟩
          refine Stk.on ?_
          exact Stk.ln 0 (by decide) (hJ6 _ _ _ ⟨f0, f1, f2, f11, f12, f15, f18, f20, f21, f22, f119.trans (congrArg (fun q => AV.sc (.bool q)) (by rw [hb6]; rfl))⟩)
        · rw [hb6] at f116
          refine Stk.run 3 (fun t H n => t 0 = .ssl (encs c97 a0) a0.length false ∧ t 1 = .ssl (encs c97 a1) a1.length false ∧ t 2 = .ssl (encs c97 a2) a2.length false ∧ t 11 = .ssl (encs c97 x7.1) x7.1.length false ∧ t 12 = .sc (.int .i64 x7.2) ∧ t 15 = .ssl (encs c97 x18.1) x18.1.length false ∧ t 18 = .sc (.int .i64 x19.2) ∧ t 20 = .sc (.int .i64 x20.2) ∧ t 21 = .ssl (encs c97 x21.1) x21.1.length false ∧ t 22 = .sc (.int .i64 x21.2) ∧ t 119 = .sc (.bool false)) (fun J hJ => ?_) ?_
          · simp [-splice, f0, f1, f2, f11, f12, f15, f16, f18, f20, f21, f22, f116]
            exact hJ _ _ _ ⟨by simp [f0], by simp [f1], by simp [f2], by simp [f11], by simp [f12], by simp [f15], by simp [f18], by simp [f20], by simp [f21], by simp [f22], by simp [-splice, f0, f1, f2, f11, f12, f15, f16, f18, f20, f21, f22, f116]⟩
          clear f0 f1 f2 f11 f12 f15 f16 f18 f20 f21 f22 f116
          rintro t H n ⟨f0, f1, f2, f11, f12, f15, f18, f20, f21, f22, f119⟩
          refine Stk.on ?_
          exact Stk.ln 0 (by decide) (hJ6 _ _ _ ⟨f0, f1, f2, f11, f12, f15, f18, f20, f21, f22, f119.trans (congrArg (fun q => AV.sc (.bool q)) (by rw [hb6]; rfl))⟩)
      clear f0 f1 f2 f11 f12 f15 f16 f18 f20 f21 f22 f116
      rintro t H n ⟨f0, f1, f2, f11, f12, f15, f18, f20, f21, f22, f119⟩
      refine Stk.run 1 (fun t H n => t 0 = .ssl (encs c97 a0) a0.length false ∧ t 1 = .ssl (encs c97 a1) a1.length false ∧ t 2 = .ssl (encs c97 a2) a2.length false ∧ t 11 = .ssl (encs c97 x7.1) x7.1.length false ∧ t 12 = .sc (.int .i64 x7.2) ∧ t 15 = .ssl (encs c97 x18.1) x18.1.length false ∧ t 18 = .sc (.int .i64 x19.2) ∧ t 20 = .sc (.int .i64 x20.2) ∧ t 21 = .ssl (encs c97 x21.1) x21.1.length false ∧ t 22 = .sc (.int .i64 x21.2) ∧ t 120 = .sc (.bool ((x5.2 == 0) && (x18.2 == 0)))) (fun J hJ => ?_) ?_
      · simp [-splice, f0, f1, f2, f11, f12, f15, f18, f20, f21, f22, f119]
        exact hJ _ _ _ ⟨by simp [f0], by simp [f1], by simp [f2], by simp [f11], by simp [f12], by simp [f15], by simp [f18], by simp [f20], by simp [f21], by simp [f22], by simp [-splice, f0, f1, f2, f11, f12, f15, f18, f20, f21, f22, f119]⟩
      clear f0 f1 f2 f11 f12 f15 f18 f20 f21 f22 f119
      rintro t H n ⟨f0, f1, f2, f11, f12, f15, f18, f20, f21, f22, f120⟩
      refine Stk.jo 3 (fun t H n => t 0 = .ssl (encs c97 a0) a0.length false ∧ t 1 = .ssl (encs c97 a1) a1.length false ∧ t 2 = .ssl (encs c97 a2) a2.length false ∧ t 11 = .ssl (encs c97 x7.1) x7.1.length false ∧ t 12 = .sc (.int .i64 x7.2) ∧ t 15 = .ssl (encs c97 x18.1) x18.1.length false ∧ t 20 = .sc (.int .i64 x20.2) ∧ t 21 = .ssl (encs c97 x21.1) x21.1.length false ∧ t 22 = .sc (.int .i64 x21.2) ∧ t 123 = .sc (.bool (((x5.2 == 0) && (x18.2 == 0)) && (x19.2 == 0)))) (fun J7 hJ7 => ?_) ?_
      · rcases Bool.eq_false_or_eq_true ((x5.2 == 0) && (x18.2 == 0)) with hb7 | hb7
        · rw [hb7] at f120
          refine Stk.run 3 (fun t H n => t 0 = .ssl (encs c97 a0) a0.length false ∧ t 1 = .ssl (encs c97 a1) a1.length false ∧ t 2 = .ssl (encs c97 a2) a2.length false ∧ t 11 = .ssl (encs c97 x7.1) x7.1.length false ∧ t 12 = .sc (.int .i64 x7.2) ∧ t 15 = .ssl (encs c97 x18.1) x18.1.length false ∧ t 20 = .sc (.int .i64 x20.2) ∧ t 21 = .ssl (encs c97 x21.1) x21.1.length false ∧ t 22 = .sc (.int .i64 x21.2) ∧ t 123 = .sc (.bool (x19.2 == 0))) (fun J hJ => ?_) ?_
          · simp [-splice, f0, f1, f2, f11, f12, f15, f18, f20, f21, f22, f120]
            exact hJ _ _ _ ⟨by simp [f0], by simp [f1], by simp [f2], by simp [f11], by simp [f12], by simp [f15], by simp [f20], by simp [f21], by simp [f22], by simp [-splice, f0, f1, f2, f11, f12, f15, f18, f20, f21, f22, f120]⟩
          clear f0 f1 f2 f11 f12 f15 f18 f20 f21 f22 f120
          rintro t H n ⟨f0, f1, f2, f11, f12, f15, f20, f21, f22, f123⟩
          refine Stk.on ?_
          exact Stk.ln 0 (by decide) (hJ7 _ _ _ ⟨f0, f1, f2, f11, f12, f15, f20, f21, f22, f123.trans (congrArg (fun q => AV.sc (.bool q)) (by rw [hb7]; rfl))⟩)
        · rw [hb7] at f120
          refine Stk.run 3 (fun t H n => t 0 = .ssl (encs c97 a0) a0.length false ∧ t 1 = .ssl (encs c97 a1) a1.length false ∧ t 2 = .ssl (encs c97 a2) a2.length false ∧ t 11 = .ssl (encs c97 x7.1) x7.1.length false ∧ t 12 = .sc (.int .i64 x7.2) ∧ t 15 = .ssl (encs c97 x18.1) x18.1.length false ∧ t 20 = .sc (.int .i64 x20.2) ∧ t 21 = .ssl (encs c97 x21.1) x21.1.length false ∧ t 22 = .sc (.int .i64 x21.2) ∧ t 123 = .sc (.bool false)) (fun J hJ => ?_) ?_
          · simp [-splice, f0, f1, f2, f11, f12, f15, f18, f20, f21, f22, f120]
            exact hJ _ _ _ ⟨by simp [f0], by simp [f1], by simp [f2], by simp [f11], by simp [f12], by simp [f15], by simp [f20], by simp [f21], by simp [f22], by simp [-splice, f0, f1, f2, f11, f12, f15, f18, f20, f21, f22, f120]⟩
          clear f0 f1 f2 f11 f12 f15 f18 f20 f21 f22 f120
          rintro t H n ⟨f0, f1, f2, f11, f12, f15, f20, f21, f22, f123⟩
          refine Stk.on ?_
          exact Stk.ln 0 (by decide) (hJ7 _ _ _ ⟨f0, f1, f2, f11, f12, f15, f20, f21, f22, f123.trans (congrArg (fun q => AV.sc (.bool q)) (by rw [hb7]; rfl))⟩)
      clear f0 f1 f2 f11 f12 f15 f18 f20 f21 f22 f120
      rintro t H n ⟨f0, f1, f2, f11, f12, f15, f20, f21, f22, f123⟩
      refine Stk.run 1 (fun t H n => t 0 = .ssl (encs c97 a0) a0.length false ∧ t 1 = .ssl (encs c97 a1) a1.length false ∧ t 2 = .ssl (encs c97 a2) a2.length false ∧ t 11 = .ssl (encs c97 x7.1) x7.1.length false ∧ t 12 = .sc (.int .i64 x7.2) ∧ t 15 = .ssl (encs c97 x18.1) x18.1.length false ∧ t 20 = .sc (.int .i64 x20.2) ∧ t 21 = .ssl (encs c97 x21.1) x21.1.length false ∧ t 22 = .sc (.int .i64 x21.2) ∧ t 124 = .sc (.bool (((x5.2 == 0) && (x18.2 == 0)) && (x19.2 == 0)))) (fun J hJ => ?_) ?_
      · simp [-splice, f0, f1, f2, f11, f12, f15, f20, f21, f22, f123]
        exact hJ _ _ _ ⟨by simp [f0], by simp [f1], by simp [f2], by simp [f11], by simp [f12], by simp [f15], by simp [f20], by simp [f21], by simp [f22], by simp [-splice, f0, f1, f2, f11, f12, f15, f20, f21, f22, f123]⟩
      clear f0 f1 f2 f11 f12 f15 f20 f21 f22 f123
      rintro t H n ⟨f0, f1, f2, f11, f12, f15, f20, f21, f22, f124⟩
      refine Stk.jo 3 (fun t H n => t 0 = .ssl (encs c97 a0) a0.length false ∧ t 1 = .ssl (encs c97 a1) a1.length false ∧ t 2 = .ssl (encs c97 a2) a2.length false ∧ t 11 = .ssl (encs c97 x7.1) x7.1.length false ∧ t 12 = .sc (.int .i64 x7.2) ∧ t 15 = .ssl (encs c97 x18.1) x18.1.length false ∧ t 21 = .ssl (encs c97 x21.1) x21.1.length false ∧ t 22 = .sc (.int .i64 x21.2) ∧ t 127 = .sc (.bool ((((x5.2 == 0) && (x18.2 == 0)) && (x19.2 == 0)) && (x20.2 == 0)))) (fun J8 hJ8 => ?_) ?_
      · rcases Bool.eq_false_or_eq_true (((x5.2 == 0) && (x18.2 == 0)) && (x19.2 == 0)) with hb8 | hb8
        · rw [hb8] at f124
          refine Stk.run 3 (fun t H n => t 0 = .ssl (encs c97 a0) a0.length false ∧ t 1 = .ssl (encs c97 a1) a1.length false ∧ t 2 = .ssl (encs c97 a2) a2.length false ∧ t 11 = .ssl (encs c97 x7.1) x7.1.length false ∧ t 12 = .sc (.int .i64 x7.2) ∧ t 15 = .ssl (encs c97 x18.1) x18.1.length false ∧ t 21 = .ssl (encs c97 x21.1) x21.1.length false ∧ t 22 = .sc (.int .i64 x21.2) ∧ t 127 = .sc (.bool (x20.2 == 0))) (fun J hJ => ?_) ?_
          · simp [-splice, f0, f1, f2, f11, f12, f15, f20, f21, f22, f124]
            exact hJ _ _ _ ⟨by simp [f0], by simp [f1], by simp [f2], by simp [f11], by simp [f12], by simp [f15], by simp [f21], by simp [f22], by simp [-splice, f0, f1, f2, f11, f12, f15, f20, f21, f22, f124]⟩
          clear f0 f1 f2 f11 f12 f15 f20 f21 f22 f124
          rintro t H n ⟨f0, f1, f2, f11, f12, f15, f21, f22, f127⟩
          refine Stk.on ?_
          exact Stk.ln 0 (by decide) (hJ8 _ _ _ ⟨f0, f1, f2, f11, f12, f15, f21, f22, f127.trans (congrArg (fun q => AV.sc (.bool q)) (by rw [hb8]; rfl))⟩)
        · rw [hb8] at f124
          refine Stk.run 3 (fun t H n => t 0 = .ssl (encs c97 a0) a0.length false ∧ t 1 = .ssl (encs c97 a1) a1.length false ∧ t 2 = .ssl (encs c97 a2) a2.length false ∧ t 11 = .ssl (encs c97 x7.1) x7.1.length false ∧ t 12 = .sc (.int .i64 x7.2) ∧ t 15 = .ssl (encs c97 x18.1) x18.1.length false ∧ t 21 = .ssl (encs c97 x21.1) x21.1.length false ∧ t 22 = .sc (.int .i64 x21.2) ∧ t 127 = .sc (.bool false)) (fun J hJ => ?_) ?_
          · simp [-splice, f0, f1, f2, f11, f12, f15, f20, f21, f22, f124]
            exact hJ _ _ _ ⟨by simp [f0], by simp [f1], by simp [f2], by simp [f11], by simp [f12], by simp [f15], by simp [f21], by simp [f22], by simp [-splice, f0, f1, f2, f11, f12, f15, f20, f21, f22, f124]⟩
          clear f0 f1 f2 f11 f12 f15 f20 f21 f22 f124
          rintro t H n ⟨f0, f1, f2, f11, f12, f15, f21, f22, f127⟩
          refine Stk.on ?_
          exact Stk.ln 0 (by decide) (hJ8 _ _ _ ⟨f0, f1, f2, f11, f12, f15, f21, f22, f127.trans (congrArg (fun q => AV.sc (.bool q)) (by rw [hb8]; rfl))⟩)
      clear f0 f1 f2 f11 f12 f15 f20 f21 f22 f124
      rintro t H n ⟨f0, f1, f2, f11, f12, f15, f21, f22, f127⟩
      refine Stk.run 1 (fun t H n => t 0 = .ssl (encs c97 a0) a0.length false ∧ t 1 = .ssl (encs c97 a1) a1.length false ∧ t 2 = .ssl (encs c97 a2) a2.length false ∧ t 11 = .ssl (encs c97 x7.1) x7.1.length false ∧ t 12 = .sc (.int .i64 x7.2) ∧ t 15 = .ssl (encs c97 x18.1) x18.1.length false ∧ t 21 = .ssl (encs c97 x21.1) x21.1.length false ∧ t 22 = .sc (.int .i64 x21.2) ∧ t 128 = .sc (.bool ((((x5.2 == 0) && (x18.2 == 0)) && (x19.2 == 0)) && (x20.2 == 0)))) (fun J hJ => ?_) ?_
      · simp [-splice, f0, f1, f2, f11, f12, f15, f21, f22, f127]
        exact hJ _ _ _ ⟨by simp [f0], by simp [f1], by simp [f2], by simp [f11], by simp [f12], by simp [f15], by simp [f21], by simp [f22], by simp [-splice, f0, f1, f2, f11, f12, f15, f21, f22, f127]⟩
      clear f0 f1 f2 f11 f12 f15 f21 f22 f127
      rintro t H n ⟨f0, f1, f2, f11, f12, f15, f21, f22, f128⟩
      refine Stk.jo 3 (fun t H n => t 0 = .ssl (encs c97 a0) a0.length false ∧ t 1 = .ssl (encs c97 a1) a1.length false ∧ t 2 = .ssl (encs c97 a2) a2.length false ∧ t 11 = .ssl (encs c97 x7.1) x7.1.length false ∧ t 12 = .sc (.int .i64 x7.2) ∧ t 15 = .ssl (encs c97 x18.1) x18.1.length false ∧ t 21 = .ssl (encs c97 x21.1) x21.1.length false ∧ t 131 = .sc (.bool (((((x5.2 == 0) && (x18.2 == 0)) && (x19.2 == 0)) && (x20.2 == 0)) && (x21.2 == 0)))) (fun J9 hJ9 => ?_) ?_
      · rcases Bool.eq_false_or_eq_true ((((x5.2 == 0) && (x18.2 == 0)) && (x19.2 == 0)) && (x20.2 == 0)) with hb9 | hb9
        · rw [hb9] at f128
          refine Stk.run 3 (fun t H n => t 0 = .ssl (encs c97 a0) a0.length false ∧ t 1 = .ssl (encs c97 a1) a1.length false ∧ t 2 = .ssl (encs c97 a2) a2.length false ∧ t 11 = .ssl (encs c97 x7.1) x7.1.length false ∧ t 12 = .sc (.int .i64 x7.2) ∧ t 15 = .ssl (encs c97 x18.1) x18.1.length false ∧ t 21 = .ssl (encs c97 x21.1) x21.1.length false ∧ t 131 = .sc (.bool (x21.2 == 0))) (fun J hJ => ?_) ?_
          · simp [-splice, f0, f1, f2, f11, f12, f15, f21, f22, f128]
            exact hJ _ _ _ ⟨by simp [f0], by simp [f1], by simp [f2], by simp [f11], by simp [f12], by simp [f15], by simp [f21], by simp [-splice, f0, f1, f2, f11, f12, f15, f21, f22, f128]⟩
          clear f0 f1 f2 f11 f12 f15 f21 f22 f128
          rintro t H n ⟨f0, f1, f2, f11, f12, f15, f21, f131⟩
          refine Stk.on ?_
          exact Stk.ln 0 (by decide) (hJ9 _ _ _ ⟨f0, f1, f2, f11, f12, f15, f21, f131.trans (congrArg (fun q => AV.sc (.bool q)) (by rw [hb9]; rfl))⟩)
        · rw [hb9] at f128
          refine Stk.run 3 (fun t H n => t 0 = .ssl (encs c97 a0) a0.length false ∧ t 1 = .ssl (encs c97 a1) a1.length false ∧ t 2 = .ssl (encs c97 a2) a2.length false ∧ t 11 = .ssl (encs c97 x7.1) x7.1.length false ∧ t 12 = .sc (.int .i64 x7.2) ∧ t 15 = .ssl (encs c97 x18.1) x18.1.length false ∧ t 21 = .ssl (encs c97 x21.1) x21.1.length false ∧ t 131 = .sc (.bool false)) (fun J hJ => ?_) ?_
          · simp [-splice, f0, f1, f2, f11, f12, f15, f21, f22, f128]
            exact hJ _ _ _ ⟨by simp [f0], by simp [f1], by simp [f2], by simp [f11], by simp [f12], by simp [f15], by simp [f21], by simp [-splice, f0, f1, f2, f11, f12, f15, f21, f22, f128]⟩
          clear f0 f1 f2 f11 f12 f15 f21 f22 f128
          rintro t H n ⟨f0, f1, f2, f11, f12, f15, f21, f131⟩
          refine Stk.on ?_
          exact Stk.ln 0 (by decide) (hJ9 _ _ _ ⟨f0, f1, f2, f11, f12, f15, f21, f131.trans (congrArg (fun q => AV.sc (.bool q)) (by rw [hb9]; rfl))⟩)
      clear f0 f1 f2 f11 f12 f15 f21 f22 f128
      rintro t H n ⟨f0, f1, f2, f11, f12, f15, f21, f131⟩
      refine Stk.run 1 (fun t H n => t 0 = .ssl (encs c97 a0) a0.length false ∧ t 1 = .ssl (encs c97 a1) a1.length false ∧ t 2 = .ssl (encs c97 a2) a2.length false ∧ t 11 = .ssl (encs c97 x7.1) x7.1.length false ∧ t 12 = .sc (.int .i64 x7.2) ∧ t 15 = .ssl (encs c97 x18.1) x18.1.length false ∧ t 21 = .ssl (encs c97 x21.1) x21.1.length false ∧ t 132 = .sc (.bool (((((x5.2 == 0) && (x18.2 == 0)) && (x19.2 == 0)) && (x20.2 == 0)) && (x21.2 == 0)))) (fun J hJ => ?_) ?_
      · simp [-splice, f0, f1, f2, f11, f12, f15, f21, f131]
        exact hJ _ _ _ ⟨by simp [f0], by simp [f1], by simp [f2], by simp [f11], by simp [f12], by simp [f15], by simp [f21], by simp [-splice, f0, f1, f2, f11, f12, f15, f21, f131]⟩
      clear f0 f1 f2 f11 f12 f15 f21 f131
      rintro t H n ⟨f0, f1, f2, f11, f12, f15, f21, f132⟩
      obtain ⟨K10, hK10, h⟩ := jnd h
      refine Stk.jo 5 (fun t H n => ∃ v22 : Bool, K10 v22 = some r ∧ t 0 = .ssl (encs c97 a0) a0.length false ∧ t 1 = .ssl (encs c97 a1) a1.length false ∧ t 2 = .ssl (encs c97 a2) a2.length false ∧ t 11 = .ssl (encs c97 x7.1) x7.1.length false ∧ t 12 = .sc (.int .i64 x7.2) ∧ t 137 = .sc (.bool v22)) (fun J10 hJ10 => ?_) ?_
      · rcases Bool.eq_false_or_eq_true (((((x5.2 == 0) && (x18.2 == 0)) && (x19.2 == 0)) && (x20.2 == 0)) && (x21.2 == 0)) with hb10 | hb10
        · rw [hb10] at f132
          replace h := cT hb10 h
          refine Stk.run 2 (fun t H n => t 0 = .ssl (encs c97 a0) a0.length false ∧ t 1 = .ssl (encs c97 a1) a1.length false ∧ t 2 = .ssl (encs c97 a2) a2.length false ∧ t 11 = .ssl (encs c97 x7.1) x7.1.length false ∧ t 12 = .sc (.int .i64 x7.2) ∧ t 132 = .sc (.bool true) ∧ t 133 = .ssl (encs c97 x18.1) x18.1.length false ∧ t 134 = .ssl (encs c97 x21.1) x21.1.length false) (fun J hJ => ?_) ?_
          · simp [-splice, f0, f1, f2, f11, f12, f15, f21, f132]
            exact hJ _ _ _ ⟨by simp [f0], by simp [f1], by simp [f2], by simp [f11], by simp [f12], by simp [f132], by simp [-splice, f0, f1, f2, f11, f12, f15, f21, f132], by simp [-splice, f0, f1, f2, f11, f12, f15, f21, f132]⟩
          clear f0 f1 f2 f11 f12 f15 f21 f132
          rintro t H n ⟨f0, f1, f2, f11, f12, f132, f133, f134⟩
          obtain ⟨x23, hx23, h⟩ := bnd h
          refine Stk.cv (g := 22) (args := [.ssl (encs c97 x18.1) x18.1.length false, .ssl (encs c97 x21.1) x21.1.length false]) (args' := [.ssl (encs c97 x18.1) x18.1.length false, .ssl (encs c97 x21.1) x21.1.length false]) (v := .sc (.bool x23)) [] (ok_R13_Same F _ _ _ hx23) (by simp [f0, f1, f2, f11, f12, f132, f133, f134]) rfl rfl (by simp [f0, f1, f2, f11, f12, f132, f133, f134]) (.cons (.free (freeL_encs fr97 _)) (.cons (.free (freeL_encs fr97 _)) (.nil))) (.inl ⟨rfl, rfl⟩) (fun t' ht' => ?_)
          refine Stk.gen (fun t H n => t 0 = .ssl (encs c97 a0) a0.length false ∧ t 1 = .ssl (encs c97 a1) a1.length false ∧ t 2 = .ssl (encs c97 a2) a2.length false ∧ t 11 = .ssl (encs c97 x7.1) x7.1.length false ∧ t 12 = .sc (.int .i64 x7.2) ∧ t 132 = .sc (.bool true) ∧ t 135 = .sc (.bool x23)) ⟨by simp [ht', f0], by simp [ht', f1], by simp [ht', f2], by simp [ht', f11], by simp [ht', f12], by simp [ht', f132], by simp [ht']⟩ ?_
          clear f0 f1 f2 f11 f12 f132 f133 f134 ht' t'
          rintro t H n ⟨f0, f1, f2, f11, f12, f132, f135⟩
          refine Stk.run 2 (fun t H n => t 0 = .ssl (encs c97 a0) a0.length false ∧ t 1 = .ssl (encs c97 a1) a1.length false ∧ t 2 = .ssl (encs c97 a2) a2.length false ∧ t 11 = .ssl (encs c97 x7.1) x7.1.length false ∧ t 12 = .sc (.int .i64 x7.2) ∧ t 137 = .sc (.bool (!x23))) (fun J hJ => ?_) ?_
          · simp [-splice, f0, f1, f2, f11, f12, f132, f135]
            exact hJ _ _ _ ⟨by simp [f0], by simp [f1], by simp [f2], by simp [f11], by simp [f12], by simp [-splice, f0, f1, f2, f11, f12, f132, f135]⟩
          clear f0 f1 f2 f11 f12 f132 f135
          rintro t H n ⟨f0, f1, f2, f11, f12, f137⟩
          refine Stk.on ?_
          exact Stk.ln 0 (by decide) (hJ10 _ _ _ ⟨(!x23), h, f0, f1, f2, f11, f12, f137⟩)
        · rw [hb10] at f132
          replace h := cF hb10 h
          refine Stk.run 5 (fun t H n => t 0 = .ssl (encs c97 a0) a0.length false ∧ t 1 = .ssl (encs c97 a1) a1.length false ∧ t 2 = .ssl (encs c97 a2) a2.length false ∧ t 11 = .ssl (encs c97 x7.1) x7.1.length false ∧ t 12 = .sc (.int .i64 x7.2) ∧ t 137 = .sc (.bool false)) (fun J hJ => ?_) ?_
          · simp [-splice, f0, f1, f2, f11, f12, f15, f21, f132]
            exact hJ _ _ _ ⟨by simp [f0], by simp [f1], by simp [f2], by simp [f11], by simp [f12], by simp [-splice, f0, f1, f2, f11, f12, f15, f21, f132]⟩
          clear f0 f1 f2 f11 f12 f15 f21 f132
          rintro t H n ⟨f0, f1, f2, f11, f12, f137⟩
          refine Stk.on ?_
          exact Stk.ln 0 (by decide) (hJ10 _ _ _ ⟨false, h, f0, f1, f2, f11, f12, f137⟩)
      clear h f0 f1 f2 f11 f12 f15 f21 f132
      rintro t H n ⟨v22, h, f0, f1, f2, f11, f12, f137⟩
      subst hK10
      refine Stk.on ?_
      refine Stk.cond v22 (by exact f137) (fun hb24 => ?_) (fun hb24 => ?_)
      · have h := cT hb24 h
        refine Stk.sq ?_
        refine Stk.rg ?_
        refine Stk.run 1 (fun t H n => t 6 = .sc (.bool false)) (fun J hJ => ?_) ?_
        · simp [-splice, f0, f1, f2, f11, f12, f137]
          exact hJ _ _ _ (by simp [-splice, f0, f1, f2, f11, f12, f137])
        clear f0 f1 f2 f11 f12 f137
        rintro t H n f6
        refine Stk.on ?_
        refine Stk.rt ?_
        have hq := Option.some.inj h; subst hq
        exact (hr _ _ _ (.sc (.bool false)) ([]) (by simp [f6]) (.inr (.inr (.free (rfl))))).1
      · have h := cF hb24 h
        refine Stk.sk ?_
        refine Stk.sq ?_
        refine Stk.rg ?_
        refine Stk.run 2 (fun t H n => t 0 = .ssl (encs c97 a0) a0.length false ∧ t 1 = .ssl (encs c97 a1) a1.length false ∧ t 2 = .ssl (encs c97 a2) a2.length false ∧ t 12 = .sc (.int .i64 x7.2) ∧ t 139 = .ssl (encs c97 x7.1) x7.1.length false ∧ t 140 = .ssl (encs c97 a2) a2.length false) (fun J hJ => ?_) ?_
        · simp [-splice, f0, f1, f2, f11, f12, f137]
          exact hJ _ _ _ ⟨by simp [f0], by simp [f1], by simp [f2], by simp [f12], by simp [-splice, f0, f1, f2, f11, f12, f137], by simp [-splice, f0, f1, f2, f11, f12, f137]⟩
        clear f0 f1 f2 f11 f12 f137
        rintro t H n ⟨f0, f1, f2, f12, f139, f140⟩
        obtain ⟨x25, hx25, h⟩ := bnd h
        refine Stk.cv (g := 21) (args := [.ssl (encs c97 x7.1) x7.1.length false, .ssl (encs c97 a2) a2.length false]) (args' := [.ssl (encs c97 x7.1) x7.1.length false, .ssl (encs c97 a2) a2.length false]) (v := .tup [.ssl (encs c97 x25.1) x25.1.length false, .sc (.int .i64 x25.2)]) [] (ok_poly_Mul F _ _ _ hx25) (by simp [f0, f1, f2, f12, f139, f140]) rfl rfl (by simp [f0, f1, f2, f12, f139, f140]) (.cons (.free (freeL_encs fr97 _)) (.cons (.free (freeL_encs fr97 _)) (.nil))) (.inl ⟨rfl, by simp [free, freeL, freeL_encs fr97]⟩) (fun t' ht' => ?_)
        refine Stk.gen (fun t H n => t 0 = .ssl (encs c97 a0) a0.length false ∧ t 1 = .ssl (encs c97 a1) a1.length false ∧ t 2 = .ssl (encs c97 a2) a2.length false ∧ t 12 = .sc (.int .i64 x7.2) ∧ t 141 = .tup [.ssl (encs c97 x25.1) x25.1.length false, .sc (.int .i64 x25.2)]) ⟨by simp [ht', f0], by simp [ht', f1], by simp [ht', f2], by simp [ht', f12], by simp [ht']⟩ ?_
        clear f0 f1 f2 f12 f139 f140 ht' t'
        rintro t H n ⟨f0, f1, f2, f12, f141⟩
        refine Stk.run 5 (fun t H n => t 0 = .ssl (encs c97 a0) a0.length false ∧ t 1 = .ssl (encs c97 a1) a1.length false ∧ t 2 = .ssl (encs c97 a2) a2.length false ∧ t 12 = .sc (.int .i64 x7.2) ∧ t 23 = .ssl (encs c97 x25.1) x25.1.length false ∧ t 24 = .sc (.int .i64 x25.2)) (fun J hJ => ?_) ?_
        · simp [-splice, f0, f1, f2, f12, f141]
          exact hJ _ _ _ ⟨by simp [f0], by simp [f1], by simp [f2], by simp [f12], by simp [-splice, f0, f1, f2, f12, f141], by simp [-splice, f0, f1, f2, f12, f141]⟩
        clear f0 f1 f2 f12 f141
        rintro t H n ⟨f0, f1, f2, f12, f23, f24⟩
        refine Stk.on ?_
        refine Stk.sq ?_
        refine Stk.rg ?_
        refine Stk.run 2 (fun t H n => t 0 = .ssl (encs c97 a0) a0.length false ∧ t 12 = .sc (.int .i64 x7.2) ∧ t 23 = .ssl (encs c97 x25.1) x25.1.length false ∧ t 24 = .sc (.int .i64 x25.2) ∧ t 145 = .ssl (encs c97 a1) a1.length false ∧ t 146 = .ssl (encs c97 a2) a2.length false) (fun J hJ => ?_) ?_
        · simp [-splice, f0, f1, f2, f12, f23, f24]
          exact hJ _ _ _ ⟨by simp [f0], by simp [f12], by simp [f23], by simp [f24], by simp [-splice, f0, f1, f2, f12, f23, f24], by simp [-splice, f0, f1, f2, f12, f23, f24]⟩
        clear f0 f1 f2 f12 f23 f24
        rintro t H n ⟨f0, f12, f23, f24, f145, f146⟩
        obtain ⟨x26, hx26, h⟩ := bnd h
        refine Stk.cv (g := 21) (args := [.ssl (encs c97 a1) a1.length false, .ssl (encs c97 a2) a2.length false]) (args' := [.ssl (encs c97 a1) a1.length false, .ssl (encs c97 a2) a2.length false]) (v := .tup [.ssl (encs c97 x26.1) x26.1.length false, .sc (.int .i64 x26.2)]) [] (ok_poly_Mul F _ _ _ hx26) (by simp [f0, f12, f23, f24, f145, f146]) rfl rfl (by simp [f0, f12, f23, f24, f145, f146]) (.cons (.free (freeL_encs fr97 _)) (.cons (.free (freeL_encs fr97 _)) (.nil))) (.inl ⟨rfl, by simp [free, freeL, freeL_encs fr97]⟩) (fun t' ht' => ?_)
        refine Stk.gen (fun t H n => t 0 = .ssl (encs c97 a0) a0.length false ∧ t 12 = .sc (.int .i64 x7.2) ∧ t 23 = .ssl (encs c97 x25.1) x25.1.length false ∧ t 24 = .sc (.int .i64 x25.2) ∧ t 147 = .tup [.ssl (encs c97 x26.1) x26.1.length false, .sc (.int .i64 x26.2)]) ⟨by simp [ht', f0], by simp [ht', f12], by simp [ht', f23], by simp [ht', f24], by simp [ht']⟩ ?_
        clear f0 f12 f23 f24 f145 f146 ht' t'
        rintro t H n ⟨f0, f12, f23, f24, f147⟩
        refine Stk.run 5 (fun t H n => t 0 = .ssl (encs c97 a0) a0.length false ∧ t 12 = .sc (.int .i64 x7.2) ∧ t 23 = .ssl (encs c97 x25.1) x25.1.length false ∧ t 24 = .sc (.int .i64 x25.2) ∧ t 25 = .ssl (encs c97 x26.1) x26.1.length false ∧ t 26 = .sc (.int .i64 x26.2)) (fun J hJ => ?_) ?_
        · simp [-splice, f0, f12, f23, f24, f147]
          exact hJ _ _ _ ⟨by simp [f0], by simp [f12], by simp [f23], by simp [f24], by simp [-splice, f0, f12, f23, f24, f147], by simp [-splice, f0, f12, f23, f24, f147]⟩
        clear f0 f12 f23 f24 f147
        rintro t H n ⟨f0, f12, f23, f24, f25, f26⟩
        refine Stk.on ?_
        refine Stk.sq ?_
        refine Stk.rg ?_
        refine Stk.run 2 (fun t H n => t 12 = .sc (.int .i64 x7.2) ∧ t 23 = .ssl (encs c97 x25.1) x25.1.length false ∧ t 24 = .sc (.int .i64 x25.2) ∧ t 26 = .sc (.int .i64 x26.2) ∧ t 151 = .ssl (encs c97 a0) a0.length false ∧ t 152 = .ssl (encs c97 x26.1) x26.1.length false) (fun J hJ => ?_) ?_
        · simp [-splice, f0, f12, f23, f24, f25, f26]
          exact hJ _ _ _ ⟨by simp [f12], by simp [f23], by simp [f24], by simp [f26], by simp [-splice, f0, f12, f23, f24, f25, f26], by simp [-splice, f0, f12, f23, f24, f25, f26]⟩
        clear f0 f12 f23 f24 f25 f26
        rintro t H n ⟨f12, f23, f24, f26, f151, f152⟩
        obtain ⟨x27, hx27, h⟩ := bnd h
        refine Stk.cv (g := 21) (args := [.ssl (encs c97 a0) a0.length false, .ssl (encs c97 x26.1) x26.1.length false]) (args' := [.ssl (encs c97 a0) a0.length false, .ssl (encs c97 x26.1) x26.1.length false]) (v := .tup [.ssl (encs c97 x27.1) x27.1.length false, .sc (.int .i64 x27.2)]) [] (ok_poly_Mul F _ _ _ hx27) (by simp [f12, f23, f24, f26, f151, f152]) rfl rfl (by simp [f12, f23, f24, f26, f151, f152]) (.cons (.free (freeL_encs fr97 _)) (.cons (.free (freeL_encs fr97 _)) (.nil))) (.inl ⟨rfl, by simp [free, freeL, freeL_encs fr97]⟩) (fun t' ht' => ?_)
        refine Stk.gen (fun t H n => t 12 = .sc (.int .i64 x7.2) ∧ t 23 = .ssl (encs c97 x25.1) x25.1.length false ∧ t 24 = .sc (.int .i64 x25.2) ∧ t 26 = .sc (.int .i64 x26.2) ∧ t 153 = .tup [.ssl (encs c97 x27.1) x27.1.length false, .sc (.int .i64 x27.2)]) ⟨by simp [ht', f12], by simp [ht', f23], by simp [ht', f24], by simp [ht', f26], by simp [ht']⟩ ?_
        clear f12 f23 f24 f26 f151 f152 ht' t'
        rintro t H n ⟨f12, f23, f24, f26, f153⟩
        refine Stk.run 5 (fun t H n => t 12 = .sc (.int .i64 x7.2) ∧ t 23 = .ssl (encs c97 x25.1) x25.1.length false ∧ t 24 = .sc (.int .i64 x25.2) ∧ t 26 = .sc (.int .i64 x26.2) ∧ t 27 = .ssl (encs c97 x27.1) x27.1.length false ∧ t 28 = .sc (.int .i64 x27.2)) (fun J hJ => ?_) ?_
        · simp [-splice, f12, f23, f24, f26, f153]
          exact hJ _ _ _ ⟨by simp [f12], by simp [f23], by simp [f24], by simp [f26], by simp [-splice, f12, f23, f24, f26, f153], by simp [-splice, f12, f23, f24, f26, f153]⟩
        clear f12 f23 f24 f26 f153
        rintro t H n ⟨f12, f23, f24, f26, f27, f28⟩
        refine Stk.on ?_
        refine Stk.sq ?_
        refine Stk.rg ?_
        refine Stk.run 3 (fun t H n => t 23 = .ssl (encs c97 x25.1) x25.1.length false ∧ t 24 = .sc (.int .i64 x25.2) ∧ t 26 = .sc (.int .i64 x26.2) ∧ t 27 = .ssl (encs c97 x27.1) x27.1.length false ∧ t 28 = .sc (.int .i64 x27.2) ∧ t 158 = .sc (.bool (x7.2 != 0))) (fun J hJ => ?_) ?_
        · simp [-splice, f12, f23, f24, f26, f27, f28]
          exact hJ _ _ _ ⟨by simp [f23], by simp [f24], by simp [f26], by simp [f27], by simp [f28], by simp [-splice, f12, f23, f24, f26, f27, f28]⟩
        clear f12 f23 f24 f26 f27 f28
        rintro t H n ⟨f23, f24, f26, f27, f28, f158⟩
        refine Stk.jo 3 (fun t H n => t 23 = .ssl (encs c97 x25.1) x25.1.length false ∧ t 26 = .sc (.int .i64 x26.2) ∧ t 27 = .ssl (encs c97 x27.1) x27.1.length false ∧ t 28 = .sc (.int .i64 x27.2) ∧ t 161 = .sc (.bool ((x7.2 != 0) || (x25.2 != 0)))) (fun J11 hJ11 => ?_) ?_
        · rcases Bool.eq_false_or_eq_true (x7.2 != 0) with hb11 | hb11
          · rw [hb11] at f158
            refine Stk.run 3 (fun t H n => t 23 = .ssl (encs c97 x25.1) x25.1.length false ∧ t 26 = .sc (.int .i64 x26.2) ∧ t 27 = .ssl (encs c97 x27.1) x27.1.length false ∧ t 28 = .sc (.int .i64 x27.2) ∧ t 161 = .sc (.bool true)) (fun J hJ => ?_) ?_
            · simp [-splice, f23, f24, f26, f27, f28, f158]
              exact hJ _ _ _ ⟨by simp [f23], by simp [f26], by simp [f27], by simp [f28], by simp [-splice, f23, f24, f26, f27, f28, f158]⟩
            clear f23 f24 f26 f27 f28 f158
            rintro t H n ⟨f23, f26, f27, f28, f161⟩
            refine Stk.on ?_
            exact Stk.ln 0 (by decide) (hJ11 _ _ _ ⟨f23, f26, f27, f28, f161.trans (congrArg (fun q => AV.sc (.bool q)) (by rw [hb11]; rfl))⟩)
          · rw [hb11] at f158
            refine Stk.run 3 (fun t H n => t 23 = .ssl (encs c97 x25.1) x25.1.length false ∧ t 26 = .sc (.int .i64 x26.2) ∧ t 27 = .ssl (encs c97 x27.1) x27.1.length false ∧ t 28 = .sc (.int .i64 x27.2) ∧ t 161 = .sc (.bool (x25.2 != 0))) (fun J hJ => ?_) ?_
            · simp [-splice, f23, f24, f26, f27, f28, f158]
              exact hJ _ _ _ ⟨by simp [f23], by simp [f26], by simp [f27], by simp [f28], by simp [-splice, f23, f24, f26, f27, f28, f158]⟩
            clear f23 f24 f26 f27 f28 f158
            rintro t H n ⟨f23, f26, f27, f28, f161⟩
            refine Stk.on ?_
            exact Stk.ln 0 (by decide) (hJ11 _ _ _ ⟨f23, f26, f27, f28, f161.trans (congrArg (fun q => AV.sc (.bool q)) (by rw [hb11]; rfl))⟩)
        clear f23 f24 f26 f27 f28 f158
        rintro t H n ⟨f23, f26, f27, f28, f161⟩
        refine Stk.run 1 (fun t H n => t 23 = .ssl (encs c97 x25.1) x25.1.length false ∧ t 26 = .sc (.int .i64 x26.2) ∧ t 27 = .ssl (encs c97 x27.1) x27.1.length false ∧ t 28 = .sc (.int .i64 x27.2) ∧ t 162 = .sc (.bool ((x7.2 != 0) || (x25.2 != 0)))) (fun J hJ => ?_) ?_
        · simp [-splice, f23, f26, f27, f28, f161]
          exact hJ _ _ _ ⟨by simp [f23], by simp [f26], by simp [f27], by simp [f28], by simp [-splice, f23, f26, f27, f28, f161]⟩
        clear f23 f26 f27 f28 f161
        rintro t H n ⟨f23, f26, f27, f28, f162⟩
        refine Stk.jo 3 (fun t H n => t 23 = .ssl (encs c97 x25.1) x25.1.length false ∧ t 27 = .ssl (encs c97 x27.1) x27.1.length false ∧ t 28 = .sc (.int .i64 x27.2) ∧ t 165 = .sc (.bool (((x7.2 != 0) || (x25.2 != 0)) || (x26.2 != 0)))) (fun J12 hJ12 => ?_) ?_
        · rcases Bool.eq_false_or_eq_true ((x7.2 != 0) || (x25.2 != 0)) with hb12 | hb12
          · rw [hb12] at f162
            refine Stk.run 3 (fun t H n => t 23 = .ssl (encs c97 x25.1) x25.1.length false ∧ t 27 = .ssl (encs c97 x27.1) x27.1.length false ∧ t 28 = .sc (.int .i64 x27.2) ∧ t 165 = .sc (.bool true)) (fun J hJ => ?_) ?_
            · simp [-splice, f23, f26, f27, f28, f162]
              exact hJ _ _ _ ⟨by simp [f23], by simp [f27], by simp [f28], by simp [-splice, f23, f26, f27, f28, f162]⟩
            clear f23 f26 f27 f28 f162
            rintro t H n ⟨f23, f27, f28, f165⟩
            refine Stk.on ?_
            exact Stk.ln 0 (by decide) (hJ12 _ _ _ ⟨f23, f27, f28, f165.trans (congrArg (fun q => AV.sc (.bool q)) (by rw [hb12]; rfl))⟩)
          · rw [hb12] at f162
            refine Stk.run 3 (fun t H n => t 23 = .ssl (encs c97 x25.1) x25.1.length false ∧ t 27 = .ssl (encs c97 x27.1) x27.1.length false ∧ t 28 = .sc (.int .i64 x27.2) ∧ t 165 = .sc (.bool (x26.2 != 0))) (fun J hJ => ?_) ?_
            · simp [-splice, f23, f26, f27, f28, f162]
              exact hJ _ _ _ ⟨by simp [f23], by simp [f27], by simp [f28], by simp [-splice, f23, f26, f27, f28, f162]⟩
            clear f23 f26 f27 f28 f162
            rintro t H n ⟨f23, f27, f28, f165⟩
            refine Stk.on ?_
            exact Stk.ln 0 (by decide) (hJ12 _ _ _ ⟨f23, f27, f28, f165.trans (congrArg (fun q => AV.sc (.bool q)) (by rw [hb12]; rfl))⟩)
        clear f23 f26 f27 f28 f162
        rintro t H n ⟨f23, f27, f28, f165⟩
        refine Stk.run 1 (fun t H n => t 23 = .ssl (encs c97 x25.1) x25.1.length false ∧ t 27 = .ssl (encs c97 x27.1) x27.1.length false ∧ t 28 = .sc (.int .i64 x27.2) ∧ t 166 = .sc (.bool (((x7.2 != 0) || (x25.2 != 0)) || (x26.2 != 0)))) (fun J hJ => ?_) ?_
        · simp [-splice, f23, f27, f28, f165]
          exact hJ _ _ _ ⟨by simp [f23], by simp [f27], by simp [f28], by simp [-splice, f23, f27, f28, f165]⟩
        clear f23 f27 f28 f165
        rintro t H n ⟨f23, f27, f28, f166⟩
        refine Stk.jo 3 (fun t H n => t 23 = .ssl (encs c97 x25.1) x25.1.length false ∧ t 27 = .ssl (encs c97 x27.1) x27.1.length false ∧ t 169 = .sc (.bool ((((x7.2 != 0) || (x25.2 != 0)) || (x26.2 != 0)) || (x27.2 != 0)))) (fun J13 hJ13 => ?_) ?_
        · rcases Bool.eq_false_or_eq_true (((x7.2 != 0) || (x25.2 != 0)) || (x26.2 != 0)) with hb13 | hb13
          · rw [hb13] at f166
            refine Stk.run 3 (fun t H n => t 23 = .ssl (encs c97 x25.1) x25.1.length false ∧ t 27 = .ssl (encs c97 x27.1) x27.1.length false ∧ t 169 = .sc (.bool true)) (fun J hJ => ?_) ?_
            · simp [-splice, f23, f27, f28, f166]
              exact hJ _ _ _ ⟨by simp [f23], by simp [f27], by simp [-splice, f23, f27, f28, f166]⟩
            clear f23 f27 f28 f166
            rintro t H n ⟨f23, f27, f169⟩
            refine Stk.on ?_
            exact Stk.ln 0 (by decide) (hJ13 _ _ _ ⟨f23, f27, f169.trans (congrArg (fun q => AV.sc (.bool q)) (by rw [hb13]; rfl))⟩)
          · rw [hb13] at f166
            refine Stk.run 3 (fun t H n => t 23 = .ssl (encs c97 x25.1) x25.1.length false ∧ t 27 = .ssl (encs c97 x27.1) x27.1.length false ∧ t 169 = .sc (.bool (x27.2 != 0))) (fun J hJ => ?_) ?_
            · simp [-splice, f23, f27, f28, f166]
              exact hJ _ _ _ ⟨by simp [f23], by simp [f27], by simp [-splice, f23, f27, f28, f166]⟩
            clear f23 f27 f28 f166
            rintro t H n ⟨f23, f27, f169⟩
            refine Stk.on ?_
            exact Stk.ln 0 (by decide) (hJ13 _ _ _ ⟨f23, f27, f169.trans (congrArg (fun q => AV.sc (.bool q)) (by rw [hb13]; rfl))⟩)
        clear f23 f27 f28 f166
        rintro t H n ⟨f23, f27, f169⟩
        refine Stk.run 1 (fun t H n => t 23 = .ssl (encs c97 x25.1) x25.1.length false ∧ t 27 = .ssl (encs c97 x27.1) x27.1.length false ∧ t 170 = .sc (.bool ((((x7.2 != 0) || (x25.2 != 0)) || (x26.2 != 0)) || (x27.2 != 0)))) (fun J hJ => ?_) ?_
        · simp [-splice, f23, f27, f169]
          exact hJ _ _ _ ⟨by simp [f23], by simp [f27], by simp [-splice, f23, f27, f169]⟩
        clear f23 f27 f169
        rintro t H n ⟨f23, f27, f170⟩
        obtain ⟨K14, hK14, h⟩ := jnd h
        refine Stk.jo 4 (fun t H n => ∃ v28 : Bool, K14 v28 = some r ∧ t 174 = .sc (.bool v28)) (fun J14 hJ14 => ?_) ?_
        · rcases Bool.eq_false_or_eq_true ((((x7.2 != 0) || (x25.2 != 0)) || (x26.2 != 0)) || (x27.2 != 0)) with hb14 | hb14
          · rw [hb14] at f170
            replace h := cT hb14 h
            refine Stk.run 4 (fun t H n => t 174 = .sc (.bool true)) (fun J hJ => ?_) ?_
            · simp [-splice, f23, f27, f170]
              exact hJ _ _ _ (by simp [-splice, f23, f27, f170])
            clear f23 f27 f170
            rintro t H n f174
            refine Stk.on ?_
            exact Stk.ln 0 (by decide) (hJ14 _ _ _ ⟨true, h, f174⟩)
          · rw [hb14] at f170
            replace h := cF hb14 h
            refine Stk.run 2 (fun t H n => t 170 = .sc (.bool false) ∧ t 171 = .ssl (encs c97 x25.1) x25.1.length false ∧ t 172 = .ssl (encs c97 x27.1) x27.1.length false) (fun J hJ => ?_) ?_
            · simp [-splice, f23, f27, f170]
              exact hJ _ _ _ ⟨by simp [f170], by simp [-splice, f23, f27, f170], by simp [-splice, f23, f27, f170]⟩
            clear f23 f27 f170
            rintro t H n ⟨f170, f171, f172⟩
            obtain ⟨x29, hx29, h⟩ := bnd h
            refine Stk.cv (g := 22) (args := [.ssl (encs c97 x25.1) x25.1.length false, .ssl (encs c97 x27.1) x27.1.length false]) (args' := [.ssl (encs c97 x25.1) x25.1.length false, .ssl (encs c97 x27.1) x27.1.length false]) (v := .sc (.bool x29)) [] (ok_R13_Same F _ _ _ hx29) (by simp [f170, f171, f172]) rfl rfl (by simp [f170, f171, f172]) (.cons (.free (freeL_encs fr97 _)) (.cons (.free (freeL_encs fr97 _)) (.nil))) (.inl ⟨rfl, rfl⟩) (fun t' ht' => ?_)
            refine Stk.gen (fun t H n => t 170 = .sc (.bool false) ∧ t 173 = .sc (.bool x29)) ⟨by simp [ht', f170], by simp [ht']⟩ ?_
            clear f170 f171 f172 ht' t'
            rintro t H n ⟨f170, f173⟩
            refine Stk.run 1 (fun t H n => t 174 = .sc (.bool x29)) (fun J hJ => ?_) ?_
            · simp [-splice, f170, f173]
              exact hJ _ _ _ (by simp [-splice, f170, f173])
            clear f170 f173
            rintro t H n f174
            refine Stk.on ?_
            exact Stk.ln 0 (by decide) (hJ14 _ _ _ ⟨x29, h, f174⟩)
        clear h f23 f27 f170
        rintro t H n ⟨v28, h, f174⟩
        subst hK14
        refine Stk.run 1 (fun t H n => t 175 = .sc (.bool v28)) (fun J hJ => ?_) ?_
        · simp [-splice, f174]
          exact hJ _ _ _ (by simp [-splice, f174])
        clear f174
        rintro t H n f175
        obtain ⟨K15, hK15, h⟩ := jnd h
        refine Stk.jo 2 (fun t H n => ∃ v30 : Bool, K15 v30 = some r ∧ t 177 = .sc (.bool v30)) (fun J15 hJ15 => ?_) ?_
        · rcases Bool.eq_false_or_eq_true v28 with hb15 | hb15
          · rw [hb15] at f175
            replace h := cT hb15 h
            obtain ⟨x31, hx31, h⟩ := bnd h
            refine Stk.cv (g := 19) (args := []) (args' := []) (v := .sc (.bool x31)) [] (ok_L13_awake F  _ hx31) (by simp [f175]) rfl rfl (by simp [f175]) (.nil) (.inl ⟨rfl, rfl⟩) (fun t' ht' => ?_)
            refine Stk.gen (fun t H n => t 175 = .sc (.bool true) ∧ t 176 = .sc (.bool x31)) ⟨by simp [ht', f175], by simp [ht']⟩ ?_
            clear f175 ht' t'
            rintro t H n ⟨f175, f176⟩
            refine Stk.run 1 (fun t H n => t 177 = .sc (.bool x31)) (fun J hJ => ?_) ?_
            · simp [-splice, f175, f176]
              exact hJ _ _ _ (by simp [-splice, f175, f176])
            clear f175 f176
            rintro t H n f177
            refine Stk.on ?_
            exact Stk.ln 0 (by decide) (hJ15 _ _ _ ⟨x31, h, f177⟩)
          · rw [hb15] at f175
            replace h := cF hb15 h
            refine Stk.run 2 (fun t H n => t 177 = .sc (.bool false)) (fun J hJ => ?_) ?_
            · simp [-splice, f175]
              exact hJ _ _ _ (by simp [-splice, f175])
            clear f175
            rintro t H n f177
            refine Stk.on ?_
            exact Stk.ln 0 (by decide) (hJ15 _ _ _ ⟨false, h, f177⟩)
        clear h f175
        rintro t H n ⟨v30, h, f177⟩
        subst hK15
        refine Stk.run 1 (fun t H n => t 6 = .sc (.bool v30)) (fun J hJ => ?_) ?_
        · simp [-splice, f177]
          exact hJ _ _ _ (by simp [-splice, f177])
        clear f177
        rintro t H n f6
        refine Stk.on ?_
        refine Stk.rt ?_
        have hq := Option.some.inj h; subst hq
        exact (hr _ _ _ (.sc (.bool v30)) ([]) (by simp [f6]) (.inr (.inr (.free (rfl))))).1
end Go.Proofs.Ytfbkgjmpadknfaa.M
