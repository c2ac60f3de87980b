/-
  The functions come to them.
-/
import Derived.Test.YtfbkgjmpadknfaaGM
import Derived.Test.YtfbkgjmpadknfaaGW1
import Derived.Test.YtfbkgjmpadknfaaGW2
import Derived.Test.YtfbkgjmpadknfaaGW3
import Derived.Test.YtfbkgjmpadknfaaGW4
import Derived.Test.YtfbkgjmpadknfaaGW6
import Derived.Test.YtfbkgjmpadknfaaGW8
import Derived.Test.YtfbkgjmpadknfaaGW10
import Derived.Test.YtfbkgjmpadknfaaGW11
import Derived.Test.YtfbkgjmpadknfaaGW12
namespace Go.Proofs.Ytfbkgjmpadknfaa.M
open Go.Proofs.YtfbkgjmpadknfaaW.Ah Go.Proofs.Ytfbkgjmpadknfaa
set_option linter.unusedVariables false
set_option linter.unusedSimpArgs false
set_option maxRecDepth 8000
attribute [local simp] T.t3 T.t4 T.t23 T.t37 T.t39 List.range List.range.loop
attribute [-simp] appendAV fillAV
theorem ok_L13_PolyDoes (F : Nat) (a0 : (List api_Term)) (a1 : (List api_Term)) (a2 : (List (List api_Term))) (r : Bool) (h : L13_PolyDoes F a0 a1 a2 = some r) : RunF Try.prog T.T 7 [.ssl (encs c97 a0) a0.length false, .ssl (encs c97 a1) a1.length false, .ssl (encs c37 a2) a2.length false] (.sc (.bool r)) := by
  rw [L13_PolyDoes] at h
  refine RunF.z Try.func7 rfl rfl rfl rfl rfl (fun C hr => ?_)
  refine Stk.gen (fun t H n => t 0 = .ssl (encs c97 a0) a0.length false ∧ t 1 = .ssl (encs c97 a1) a1.length false ∧ t 2 = .ssl (encs c37 a2) a2.length false) ⟨by simp, by simp, by simp⟩ ?_
  rintro t H n ⟨f0, f1, f2⟩
  refine Stk.sq ?_
  refine Stk.rg ?_
  refine Stk.run 1 (fun t H n => t 0 = .ssl (encs c97 a0) a0.length false ∧ t 1 = .ssl (encs c97 a1) a1.length false ∧ t 2 = .ssl (encs c37 a2) a2.length false) (fun J hJ => ?_) ?_
  · simp [-splice, f0, f1, f2]
    exact hJ _ _ _ ⟨by simp [f0], by simp [f1], by simp [f2]⟩
  clear f0 f1 f2
  rintro t H n ⟨f0, f1, f2⟩
  refine Stk.on ?_
  refine Stk.sq ?_
  refine Stk.sq ?_
  refine Stk.rg ?_
  refine Stk.run 2 (fun t H n => t 0 = .ssl (encs c97 a0) a0.length false ∧ t 1 = .ssl (encs c97 a1) a1.length false ∧ t 2 = .ssl (encs c37 a2) a2.length false ∧ t 23 = .ssl (encs c97 a0) a0.length false ∧ t 24 = .ssl (encs c97 a1) a1.length false) (fun J hJ => ?_) ?_
  · simp [-splice, f0, f1, f2]
    exact hJ _ _ _ ⟨by simp [f0], by simp [f1], by simp [f2], by simp [-splice, f0, f1, f2], by simp [-splice, f0, f1, f2]⟩
  clear f0 f1 f2
  rintro t H n ⟨f0, f1, f2, f23, f24⟩
  refine Stk.om (mop_buildN (c := c37) (z := 1) T.t39 rfl T.t37 rfl (by decide) rfl (by decide) [a0, a1] rfl (.cons f23 rfl rfl rfl rfl (by simp [length_encs]) (splice_next (c := c37) [] _ a0 rfl (by simp)) (.cons f24 rfl rfl rfl rfl (by simp [length_encs]) (splice_next (c := c37) [a0] _ a1 rfl (by simp)) (.nil)))) (by simp [f0, f1, f2, f23, f24]) rfl (fun t' ht' => ?_)
  refine Stk.gen (fun t H n => ∃ b1, t 0 = .ssl (encs c97 a0) a0.length false ∧ t 1 = .ssl (encs c97 a1) a1.length false ∧ t 2 = .ssl (encs c37 a2) a2.length false ∧ t 25 = .osl b1 0 ([a0, a1] : List (List api_Term)).length (some ([a0, a1] : List (List api_Term)).length) ∧ H b1 = some (.cells (encs c37 ([a0, a1] : List (List api_Term))) 37) ∧ b1 < n) ⟨n, by simp [ht', f0], by simp [ht', f1], by simp [ht', f2], by simp [ht'], upd_same _ _ _, Nat.lt_succ_self _⟩ ?_
  clear f0 f1 f2 f23 f24 ht' t'
  rintro t H n ⟨b1, f0, f1, f2, f25, b_b1, l_b1⟩
  obtain ⟨x2, hx2, h⟩ := bnd h
  refine Stk.cv (g := 18) (args := [.osl b1 0 ([a0, a1] : List (List api_Term)).length (some ([a0, a1] : List (List api_Term)).length)]) (args' := [.ssl (encs c37 ([a0, a1] : List (List api_Term))) ([a0, a1] : List (List api_Term)).length false]) (v := .sc (.bool x2)) [b1] (ok_L13_few F _ _ hx2) (by simp [f0, f1, f2, f25]) rfl rfl (by simp [f0, f1, f2, f25]) (.cons (view_row fr37 b_b1 (by simp) _) (.nil)) (.inr rfl) (fun t' ht' => ?_)
  refine Stk.gen (fun t H n => t 0 = .ssl (encs c97 a0) a0.length false ∧ t 1 = .ssl (encs c97 a1) a1.length false ∧ t 2 = .ssl (encs c37 a2) a2.length false ∧ t 26 = .sc (.bool x2)) ⟨by simp [ht', f0], by simp [ht', f1], by simp [ht', f2], by simp [ht']⟩ ?_
  clear f0 f1 f2 f25 b_b1 l_b1 ht' t'
  rintro t H n ⟨f0, f1, f2, f26⟩
  refine Stk.run 2 (fun t H n => t 0 = .ssl (encs c97 a0) a0.length false ∧ t 1 = .ssl (encs c97 a1) a1.length false ∧ t 2 = .ssl (encs c37 a2) a2.length false ∧ t 28 = .sc (.bool (!x2))) (fun J hJ => ?_) ?_
  · simp [-splice, f0, f1, f2, f26]
    exact hJ _ _ _ ⟨by simp [f0], by simp [f1], by simp [f2], by simp [-splice, f0, f1, f2, f26]⟩
  clear f0 f1 f2 f26
  rintro t H n ⟨f0, f1, f2, f28⟩
  obtain ⟨K1, hK1, h⟩ := jnd h
  refine Stk.jo 4 (fun t H n => ∃ v3 : Bool, K1 v3 = some r ∧ t 0 = .ssl (encs c97 a0) a0.length false ∧ t 1 = .ssl (encs c97 a1) a1.length false ∧ t 2 = .ssl (encs c37 a2) a2.length false ∧ t 32 = .sc (.bool v3)) (fun J1 hJ1 => ?_) ?_
  · rcases Bool.eq_false_or_eq_true (!x2) with hb1 | hb1
    · rw [hb1] at f28
      replace h := cT hb1 h
      refine Stk.run 4 (fun t H n => t 0 = .ssl (encs c97 a0) a0.length false ∧ t 1 = .ssl (encs c97 a1) a1.length false ∧ t 2 = .ssl (encs c37 a2) a2.length false ∧ t 32 = .sc (.bool true)) (fun J hJ => ?_) ?_
      · simp [-splice, f0, f1, f2, f28]
        exact hJ _ _ _ ⟨by simp [f0], by simp [f1], by simp [f2], by simp [-splice, f0, f1, f2, f28]⟩
      clear f0 f1 f2 f28
      rintro t H n ⟨f0, f1, f2, f32⟩
      refine Stk.on ?_
      exact Stk.ln 0 (by decide) (hJ1 _ _ _ ⟨true, h, f0, f1, f2, f32⟩)
    · rw [hb1] at f28
      replace h := cF hb1 h
      refine Stk.run 1 (fun t H n => t 0 = .ssl (encs c97 a0) a0.length false ∧ t 1 = .ssl (encs c97 a1) a1.length false ∧ t 2 = .ssl (encs c37 a2) a2.length false ∧ t 28 = .sc (.bool false) ∧ t 29 = .ssl (encs c37 a2) a2.length false) (fun J hJ => ?_) ?_
      · simp [-splice, f0, f1, f2, f28]
        exact hJ _ _ _ ⟨by simp [f0], by simp [f1], by simp [f2], by simp [f28], by simp [-splice, f0, f1, f2, f28]⟩
      clear f0 f1 f2 f28
      rintro t H n ⟨f0, f1, f2, f28, f29⟩
      obtain ⟨x4, hx4, h⟩ := bnd h
      refine Stk.cv (g := 18) (args := [.ssl (encs c37 a2) a2.length false]) (args' := [.ssl (encs c37 a2) a2.length false]) (v := .sc (.bool x4)) [] (ok_L13_few F _ _ hx4) (by simp [f0, f1, f2, f28, f29]) rfl rfl (by simp [f0, f1, f2, f28, f29]) (.cons (.free (freeL_encs fr37 _)) (.nil)) (.inl ⟨rfl, rfl⟩) (fun t' ht' => ?_)
      refine Stk.gen (fun t H n => t 0 = .ssl (encs c97 a0) a0.length false ∧ t 1 = .ssl (encs c97 a1) a1.length false ∧ t 2 = .ssl (encs c37 a2) a2.length false ∧ t 28 = .sc (.bool false) ∧ t 30 = .sc (.bool x4)) ⟨by simp [ht', f0], by simp [ht', f1], by simp [ht', f2], by simp [ht', f28], by simp [ht']⟩ ?_
      clear f0 f1 f2 f28 f29 ht' t'
      rintro t H n ⟨f0, f1, f2, f28, f30⟩
      refine Stk.run 2 (fun t H n => t 0 = .ssl (encs c97 a0) a0.length false ∧ t 1 = .ssl (encs c97 a1) a1.length false ∧ t 2 = .ssl (encs c37 a2) a2.length false ∧ t 32 = .sc (.bool (!x4))) (fun J hJ => ?_) ?_
      · simp [-splice, f0, f1, f2, f28, f30]
        exact hJ _ _ _ ⟨by simp [f0], by simp [f1], by simp [f2], by simp [-splice, f0, f1, f2, f28, f30]⟩
      clear f0 f1 f2 f28 f30
      rintro t H n ⟨f0, f1, f2, f32⟩
      refine Stk.on ?_
      exact Stk.ln 0 (by decide) (hJ1 _ _ _ ⟨(!x4), h, f0, f1, f2, f32⟩)
  clear h f0 f1 f2 f28
  rintro t H n ⟨v3, h, f0, f1, f2, f32⟩
  subst hK1
  refine Stk.on ?_
  refine Stk.cond v3 (by exact f32) (fun hb5 => ?_) (fun hb5 => ?_)
  · have h := cT hb5 h
    refine Stk.sq ?_
    refine Stk.rg ?_
    obtain ⟨x6, hx6, h⟩ := bnd h
    refine Stk.cv (g := 19) (args := []) (args' := []) (v := .sc (.bool x6)) [] (ok_L13_awake F  _ hx6) (by simp [f0, f1, f2, f32]) rfl rfl (by simp [f0, f1, f2, f32]) (.nil) (.inl ⟨rfl, rfl⟩) (fun t' ht' => ?_)
    refine Stk.gen (fun t H n => t 33 = .sc (.bool x6)) (by simp [ht']) ?_
    clear f0 f1 f2 f32 ht' t'
    rintro t H n f33
    refine Stk.run 1 (fun t H n => t 6 = .sc (.bool x6)) (fun J hJ => ?_) ?_
    · simp [-splice, f33]
      exact hJ _ _ _ (by simp [-splice, f33])
    clear f33
    rintro t H n f6
    refine Stk.on ?_
    refine Stk.rt ?_
    have hq := Option.some.inj h; subst hq
    exact (hr _ _ _ (.sc (.bool x6)) ([]) (by simp [f6]) (.inr (.inr (.free (rfl))))).1
  · have h := cF hb5 h
    refine Stk.sk ?_
    refine Stk.sq ?_
    refine Stk.rg ?_
    refine Stk.run 2 (fun t H n => t 0 = .ssl (encs c97 a0) a0.length false ∧ t 1 = .ssl (encs c97 a1) a1.length false ∧ t 2 = .ssl (encs c37 a2) a2.length false ∧ t 35 = .ssl (encs c97 a0) a0.length false ∧ t 36 = .ssl (encs c97 a1) a1.length false) (fun J hJ => ?_) ?_
    · simp [-splice, f0, f1, f2, f32]
      exact hJ _ _ _ ⟨by simp [f0], by simp [f1], by simp [f2], by simp [-splice, f0, f1, f2, f32], by simp [-splice, f0, f1, f2, f32]⟩
    clear f0 f1 f2 f32
    rintro t H n ⟨f0, f1, f2, f35, f36⟩
    obtain ⟨x7, hx7, h⟩ := bnd h
    refine Stk.cv (g := 20) (args := [.ssl (encs c97 a0) a0.length false, .ssl (encs c97 a1) a1.length false]) (args' := [.ssl (encs c97 a0) a0.length false, .ssl (encs c97 a1) a1.length false]) (v := .tup [.ssl (encs c97 x7.1) x7.1.length false, .sc (.int .i64 x7.2)]) [] (ok_poly_Add F _ _ _ hx7) (by simp [f0, f1, f2, f35, f36]) rfl rfl (by simp [f0, f1, f2, f35, f36]) (.cons (.free (freeL_encs fr97 _)) (.cons (.free (freeL_encs fr97 _)) (.nil))) (.inl ⟨rfl, by simp [free, freeL, freeL_encs fr97]⟩) (fun t' ht' => ?_)
    refine Stk.gen (fun t H n => t 0 = .ssl (encs c97 a0) a0.length false ∧ t 1 = .ssl (encs c97 a1) a1.length false ∧ t 2 = .ssl (encs c37 a2) a2.length false ∧ t 37 = .tup [.ssl (encs c97 x7.1) x7.1.length false, .sc (.int .i64 x7.2)]) ⟨by simp [ht', f0], by simp [ht', f1], by simp [ht', f2], by simp [ht']⟩ ?_
    clear f0 f1 f2 f35 f36 ht' t'
    rintro t H n ⟨f0, f1, f2, f37⟩
    refine Stk.run 5 (fun t H n => t 0 = .ssl (encs c97 a0) a0.length false ∧ t 1 = .ssl (encs c97 a1) a1.length false ∧ t 2 = .ssl (encs c37 a2) a2.length false ∧ t 7 = .ssl (encs c97 x7.1) x7.1.length false ∧ t 8 = .sc (.int .i64 x7.2)) (fun J hJ => ?_) ?_
    · simp [-splice, f0, f1, f2, f37]
      exact hJ _ _ _ ⟨by simp [f0], by simp [f1], by simp [f2], by simp [-splice, f0, f1, f2, f37], by simp [-splice, f0, f1, f2, f37]⟩
    clear f0 f1 f2 f37
    rintro t H n ⟨f0, f1, f2, f7, f8⟩
    refine Stk.on ?_
    refine Stk.sq ?_
    refine Stk.rg ?_
    refine Stk.run 2 (fun t H n => t 0 = .ssl (encs c97 a0) a0.length false ∧ t 1 = .ssl (encs c97 a1) a1.length false ∧ t 2 = .ssl (encs c37 a2) a2.length false ∧ t 7 = .ssl (encs c97 x7.1) x7.1.length false ∧ t 8 = .sc (.int .i64 x7.2) ∧ t 41 = .ssl (encs c97 a0) a0.length false ∧ t 42 = .ssl (encs c97 a1) a1.length false) (fun J hJ => ?_) ?_
    · simp [-splice, f0, f1, f2, f7, f8]
      exact hJ _ _ _ ⟨by simp [f0], by simp [f1], by simp [f2], by simp [f7], by simp [f8], by simp [-splice, f0, f1, f2, f7, f8], by simp [-splice, f0, f1, f2, f7, f8]⟩
    clear f0 f1 f2 f7 f8
    rintro t H n ⟨f0, f1, f2, f7, f8, f41, f42⟩
    obtain ⟨x8, hx8, h⟩ := bnd h
    refine Stk.cv (g := 27) (args := [.ssl (encs c97 a0) a0.length false, .ssl (encs c97 a1) a1.length false]) (args' := [.ssl (encs c97 a0) a0.length false, .ssl (encs c97 a1) a1.length false]) (v := .tup [.ssl (encs c97 x8.1) x8.1.length false, .sc (.int .i64 x8.2)]) [] (ok_R13_Add F _ _ _ hx8) (by simp [f0, f1, f2, f7, f8, f41, f42]) rfl rfl (by simp [f0, f1, f2, f7, f8, f41, f42]) (.cons (.free (freeL_encs fr97 _)) (.cons (.free (freeL_encs fr97 _)) (.nil))) (.inl ⟨rfl, by simp [free, freeL, freeL_encs fr97]⟩) (fun t' ht' => ?_)
    refine Stk.gen (fun t H n => t 0 = .ssl (encs c97 a0) a0.length false ∧ t 1 = .ssl (encs c97 a1) a1.length false ∧ t 2 = .ssl (encs c37 a2) a2.length false ∧ t 7 = .ssl (encs c97 x7.1) x7.1.length false ∧ t 8 = .sc (.int .i64 x7.2) ∧ t 43 = .tup [.ssl (encs c97 x8.1) x8.1.length false, .sc (.int .i64 x8.2)]) ⟨by simp [ht', f0], by simp [ht', f1], by simp [ht', f2], by simp [ht', f7], by simp [ht', f8], by simp [ht']⟩ ?_
    clear f0 f1 f2 f7 f8 f41 f42 ht' t'
    rintro t H n ⟨f0, f1, f2, f7, f8, f43⟩
    refine Stk.run 5 (fun t H n => t 0 = .ssl (encs c97 a0) a0.length false ∧ t 1 = .ssl (encs c97 a1) a1.length false ∧ t 2 = .ssl (encs c37 a2) a2.length false ∧ t 7 = .ssl (encs c97 x7.1) x7.1.length false ∧ t 8 = .sc (.int .i64 x7.2) ∧ t 9 = .ssl (encs c97 x8.1) x8.1.length false ∧ t 10 = .sc (.int .i64 x8.2)) (fun J hJ => ?_) ?_
    · simp [-splice, f0, f1, f2, f7, f8, f43]
      exact hJ _ _ _ ⟨by simp [f0], by simp [f1], by simp [f2], by simp [f7], by simp [f8], by simp [-splice, f0, f1, f2, f7, f8, f43], by simp [-splice, f0, f1, f2, f7, f8, f43]⟩
    clear f0 f1 f2 f7 f8 f43
    rintro t H n ⟨f0, f1, f2, f7, f8, f9, f10⟩
    refine Stk.on ?_
    refine Stk.sq ?_
    refine Stk.rg ?_
    refine Stk.run 2 (fun t H n => t 0 = .ssl (encs c97 a0) a0.length false ∧ t 1 = .ssl (encs c97 a1) a1.length false ∧ t 2 = .ssl (encs c37 a2) a2.length false ∧ t 7 = .ssl (encs c97 x7.1) x7.1.length false ∧ t 8 = .sc (.int .i64 x7.2) ∧ t 9 = .ssl (encs c97 x8.1) x8.1.length false ∧ t 10 = .sc (.int .i64 x8.2) ∧ t 47 = .ssl (encs c97 a0) a0.length false ∧ t 48 = .ssl (encs c97 a1) a1.length false) (fun J hJ => ?_) ?_
    · simp [-splice, f0, f1, f2, f7, f8, f9, f10]
      exact hJ _ _ _ ⟨by simp [f0], by simp [f1], by simp [f2], by simp [f7], by simp [f8], by simp [f9], by simp [f10], by simp [-splice, f0, f1, f2, f7, f8, f9, f10], by simp [-splice, f0, f1, f2, f7, f8, f9, f10]⟩
    clear f0 f1 f2 f7 f8 f9 f10
    rintro t H n ⟨f0, f1, f2, f7, f8, f9, f10, f47, f48⟩
    obtain ⟨x9, hx9, h⟩ := bnd h
    refine Stk.cv (g := 21) (args := [.ssl (encs c97 a0) a0.length false, .ssl (encs c97 a1) a1.length false]) (args' := [.ssl (encs c97 a0) a0.length false, .ssl (encs c97 a1) a1.length false]) (v := .tup [.ssl (encs c97 x9.1) x9.1.length false, .sc (.int .i64 x9.2)]) [] (ok_poly_Mul F _ _ _ hx9) (by simp [f0, f1, f2, f7, f8, f9, f10, f47, f48]) rfl rfl (by simp [f0, f1, f2, f7, f8, f9, f10, f47, f48]) (.cons (.free (freeL_encs fr97 _)) (.cons (.free (freeL_encs fr97 _)) (.nil))) (.inl ⟨rfl, by simp [free, freeL, freeL_encs fr97]⟩) (fun t' ht' => ?_)
    refine Stk.gen (fun t H n => t 0 = .ssl (encs c97 a0) a0.length false ∧ t 1 = .ssl (encs c97 a1) a1.length false ∧ t 2 = .ssl (encs c37 a2) a2.length false ∧ t 7 = .ssl (encs c97 x7.1) x7.1.length false ∧ t 8 = .sc (.int .i64 x7.2) ∧ t 9 = .ssl (encs c97 x8.1) x8.1.length false ∧ t 10 = .sc (.int .i64 x8.2) ∧ t 49 = .tup [.ssl (encs c97 x9.1) x9.1.length false, .sc (.int .i64 x9.2)]) ⟨by simp [ht', f0], by simp [ht', f1], by simp [ht', f2], by simp [ht', f7], by simp [ht', f8], by simp [ht', f9], by simp [ht', f10], by simp [ht']⟩ ?_
    clear f0 f1 f2 f7 f8 f9 f10 f47 f48 ht' t'
    rintro t H n ⟨f0, f1, f2, f7, f8, f9, f10, f49⟩
    refine Stk.run 5 (fun t H n => t 0 = .ssl (encs c97 a0) a0.length false ∧ t 1 = .ssl (encs c97 a1) a1.length false ∧ t 2 = .ssl (encs c37 a2) a2.length false ∧ t 7 = .ssl (encs c97 x7.1) x7.1.length false ∧ t 8 = .sc (.int .i64 x7.2) ∧ t 9 = .ssl (encs c97 x8.1) x8.1.length false ∧ t 10 = .sc (.int .i64 x8.2) ∧ t 11 = .ssl (encs c97 x9.1) x9.1.length false ∧ t 12 = .sc (.int .i64 x9.2)) (fun J hJ => ?_) ?_
    · simp [-splice, f0, f1, f2, f7, f8, f9, f10, f49]
      exact hJ _ _ _ ⟨by simp [f0], by simp [f1], by simp [f2], by simp [f7], by simp [f8], by simp [f9], by simp [f10], by simp [-splice, f0, f1, f2, f7, f8, f9, f10, f49], by simp [-splice, f0, f1, f2, f7, f8, f9, f10, f49]⟩
    clear f0 f1 f2 f7 f8 f9 f10 f49
    rintro t H n ⟨f0, f1, f2, f7, f8, f9, f10, f11, f12⟩
    refine Stk.on ?_
    refine Stk.sq ?_
    refine Stk.rg ?_
    refine Stk.run 2 (fun t H n => t 0 = .ssl (encs c97 a0) a0.length false ∧ t 1 = .ssl (encs c97 a1) a1.length false ∧ t 2 = .ssl (encs c37 a2) a2.length false ∧ t 7 = .ssl (encs c97 x7.1) x7.1.length false ∧ t 8 = .sc (.int .i64 x7.2) ∧ t 9 = .ssl (encs c97 x8.1) x8.1.length false ∧ t 10 = .sc (.int .i64 x8.2) ∧ t 11 = .ssl (encs c97 x9.1) x9.1.length false ∧ t 12 = .sc (.int .i64 x9.2) ∧ t 53 = .ssl (encs c97 a0) a0.length false ∧ t 54 = .ssl (encs c97 a1) a1.length false) (fun J hJ => ?_) ?_
    · simp [-splice, f0, f1, f2, f7, f8, f9, f10, f11, f12]
      exact hJ _ _ _ ⟨by simp [f0], by simp [f1], by simp [f2], by simp [f7], by simp [f8], by simp [f9], by simp [f10], by simp [f11], by simp [f12], by simp [-splice, f0, f1, f2, f7, f8, f9, f10, f11, f12], by simp [-splice, f0, f1, f2, f7, f8, f9, f10, f11, f12]⟩
    clear f0 f1 f2 f7 f8 f9 f10 f11 f12
    rintro t H n ⟨f0, f1, f2, f7, f8, f9, f10, f11, f12, f53, f54⟩
    obtain ⟨x10, hx10, h⟩ := bnd h
    refine Stk.cv (g := 28) (args := [.ssl (encs c97 a0) a0.length false, .ssl (encs c97 a1) a1.length false]) (args' := [.ssl (encs c97 a0) a0.length false, .ssl (encs c97 a1) a1.length false]) (v := .tup [.ssl (encs c97 x10.1) x10.1.length false, .sc (.int .i64 x10.2)]) [] (ok_R13_Mul F _ _ _ hx10) (by simp [f0, f1, f2, f7, f8, f9, f10, f11, f12, f53, f54]) rfl rfl (by simp [f0, f1, f2, f7, f8, f9, f10, f11, f12, f53, f54]) (.cons (.free (freeL_encs fr97 _)) (.cons (.free (freeL_encs fr97 _)) (.nil))) (.inl ⟨rfl, by simp [free, freeL, freeL_encs fr97]⟩) (fun t' ht' => ?_)
    refine Stk.gen (fun t H n => t 0 = .ssl (encs c97 a0) a0.length false ∧ t 1 = .ssl (encs c97 a1) a1.length false ∧ t 2 = .ssl (encs c37 a2) a2.length false ∧ t 7 = .ssl (encs c97 x7.1) x7.1.length false ∧ t 8 = .sc (.int .i64 x7.2) ∧ t 9 = .ssl (encs c97 x8.1) x8.1.length false ∧ t 10 = .sc (.int .i64 x8.2) ∧ t 11 = .ssl (encs c97 x9.1) x9.1.length false ∧ t 12 = .sc (.int .i64 x9.2) ∧ t 55 = .tup [.ssl (encs c97 x10.1) x10.1.length false, .sc (.int .i64 x10.2)]) ⟨by simp [ht', f0], by simp [ht', f1], by simp [ht', f2], by simp [ht', f7], by simp [ht', f8], by simp [ht', f9], by simp [ht', f10], by simp [ht', f11], by simp [ht', f12], by simp [ht']⟩ ?_
    clear f0 f1 f2 f7 f8 f9 f10 f11 f12 f53 f54 ht' t'
    rintro t H n ⟨f0, f1, f2, f7, f8, f9, f10, f11, f12, f55⟩
    refine Stk.run 5 (fun t H n => t 0 = .ssl (encs c97 a0) a0.length false ∧ t 1 = .ssl (encs c97 a1) a1.length false ∧ t 2 = .ssl (encs c37 a2) a2.length false ∧ t 7 = .ssl (encs c97 x7.1) x7.1.length false ∧ t 8 = .sc (.int .i64 x7.2) ∧ t 9 = .ssl (encs c97 x8.1) x8.1.length false ∧ t 10 = .sc (.int .i64 x8.2) ∧ t 11 = .ssl (encs c97 x9.1) x9.1.length false ∧ t 12 = .sc (.int .i64 x9.2) ∧ t 13 = .ssl (encs c97 x10.1) x10.1.length false ∧ t 14 = .sc (.int .i64 x10.2)) (fun J hJ => ?_) ?_
    · simp [-splice, f0, f1, f2, f7, f8, f9, f10, f11, f12, f55]
      exact hJ _ _ _ ⟨by simp [f0], by simp [f1], by simp [f2], by simp [f7], by simp [f8], by simp [f9], by simp [f10], by simp [f11], by simp [f12], by simp [-splice, f0, f1, f2, f7, f8, f9, f10, f11, f12, f55], by simp [-splice, f0, f1, f2, f7, f8, f9, f10, f11, f12, f55]⟩
    clear f0 f1 f2 f7 f8 f9 f10 f11 f12 f55
    rintro t H n ⟨f0, f1, f2, f7, f8, f9, f10, f11, f12, f13, f14⟩
    refine Stk.on ?_
    refine Stk.sq ?_
    refine Stk.rg ?_
    refine Stk.run 2 (fun t H n => t 0 = .ssl (encs c97 a0) a0.length false ∧ t 1 = .ssl (encs c97 a1) a1.length false ∧ t 2 = .ssl (encs c37 a2) a2.length false ∧ t 7 = .ssl (encs c97 x7.1) x7.1.length false ∧ t 8 = .sc (.int .i64 x7.2) ∧ t 9 = .ssl (encs c97 x8.1) x8.1.length false ∧ t 10 = .sc (.int .i64 x8.2) ∧ t 11 = .ssl (encs c97 x9.1) x9.1.length false ∧ t 12 = .sc (.int .i64 x9.2) ∧ t 13 = .ssl (encs c97 x10.1) x10.1.length false ∧ t 14 = .sc (.int .i64 x10.2) ∧ t 59 = .ssl (encs c97 a0) a0.length false ∧ t 60 = .ssl (encs c97 a1) a1.length false) (fun J hJ => ?_) ?_
    · simp [-splice, f0, f1, f2, f7, f8, f9, f10, f11, f12, f13, f14]
      exact hJ _ _ _ ⟨by simp [f0], by simp [f1], by simp [f2], by simp [f7], by simp [f8], by simp [f9], by simp [f10], by simp [f11], by simp [f12], by simp [f13], by simp [f14], by simp [-splice, f0, f1, f2, f7, f8, f9, f10, f11, f12, f13, f14], by simp [-splice, f0, f1, f2, f7, f8, f9, f10, f11, f12, f13, f14]⟩
    clear f0 f1 f2 f7 f8 f9 f10 f11 f12 f13 f14
    rintro t H n ⟨f0, f1, f2, f7, f8, f9, f10, f11, f12, f13, f14, f59, f60⟩
    obtain ⟨x11, hx11, h⟩ := bnd h
    refine Stk.cv (g := 24) (args := [.ssl (encs c97 a0) a0.length false, .ssl (encs c97 a1) a1.length false]) (args' := [.ssl (encs c97 a0) a0.length false, .ssl (encs c97 a1) a1.length false]) (v := .tup [.ssl (encs c97 x11.1) x11.1.length false, .sc (.int .i64 x11.2)]) [] (ok_poly_Max F _ _ _ hx11) (by simp [f0, f1, f2, f7, f8, f9, f10, f11, f12, f13, f14, f59, f60]) rfl rfl (by simp [f0, f1, f2, f7, f8, f9, f10, f11, f12, f13, f14, f59, f60]) (.cons (.free (freeL_encs fr97 _)) (.cons (.free (freeL_encs fr97 _)) (.nil))) (.inl ⟨rfl, by simp [free, freeL, freeL_encs fr97]⟩) (fun t' ht' => ?_)
    refine Stk.gen (fun t H n => t 0 = .ssl (encs c97 a0) a0.length false ∧ t 1 = .ssl (encs c97 a1) a1.length false ∧ t 2 = .ssl (encs c37 a2) a2.length false ∧ t 7 = .ssl (encs c97 x7.1) x7.1.length false ∧ t 8 = .sc (.int .i64 x7.2) ∧ t 9 = .ssl (encs c97 x8.1) x8.1.length false ∧ t 10 = .sc (.int .i64 x8.2) ∧ t 11 = .ssl (encs c97 x9.1) x9.1.length false ∧ t 12 = .sc (.int .i64 x9.2) ∧ t 13 = .ssl (encs c97 x10.1) x10.1.length false ∧ t 14 = .sc (.int .i64 x10.2) ∧ t 61 = .tup [.ssl (encs c97 x11.1) x11.1.length false, .sc (.int .i64 x11.2)]) ⟨by simp [ht', f0], by simp [ht', f1], by simp [ht', f2], by simp [ht', f7], by simp [ht', f8], by simp [ht', f9], by simp [ht', f10], by simp [ht', f11], by simp [ht', f12], by simp [ht', f13], by simp [ht', f14], by simp [ht']⟩ ?_
    clear f0 f1 f2 f7 f8 f9 f10 f11 f12 f13 f14 f59 f60 ht' t'
    rintro t H n ⟨f0, f1, f2, f7, f8, f9, f10, f11, f12, f13, f14, f61⟩
    refine Stk.run 5 (fun t H n => t 0 = .ssl (encs c97 a0) a0.length false ∧ t 1 = .ssl (encs c97 a1) a1.length false ∧ t 2 = .ssl (encs c37 a2) a2.length false ∧ t 7 = .ssl (encs c97 x7.1) x7.1.length false ∧ t 8 = .sc (.int .i64 x7.2) ∧ t 9 = .ssl (encs c97 x8.1) x8.1.length false ∧ t 10 = .sc (.int .i64 x8.2) ∧ t 11 = .ssl (encs c97 x9.1) x9.1.length false ∧ t 12 = .sc (.int .i64 x9.2) ∧ t 13 = .ssl (encs c97 x10.1) x10.1.length false ∧ t 14 = .sc (.int .i64 x10.2) ∧ t 15 = .ssl (encs c97 x11.1) x11.1.length false ∧ t 16 = .sc (.int .i64 x11.2)) (fun J hJ => ?_) ?_
    · simp [-splice, f0, f1, f2, f7, f8, f9, f10, f11, f12, f13, f14, f61]
      exact hJ _ _ _ ⟨by simp [f0], by simp [f1], by simp [f2], by simp [f7], by simp [f8], by simp [f9], by simp [f10], by simp [f11], by simp [f12], by simp [f13], by simp [f14], by simp [-splice, f0, f1, f2, f7, f8, f9, f10, f11, f12, f13, f14, f61], by simp [-splice, f0, f1, f2, f7, f8, f9, f10, f11, f12, f13, f14, f61]⟩
    clear f0 f1 f2 f7 f8 f9 f10 f11 f12 f13 f14 f61
    rintro t H n ⟨f0, f1, f2, f7, f8, f9, f10, f11, f12, f13, f14, f15, f16⟩
    refine Stk.on ?_
    refine Stk.sq ?_
    refine Stk.rg ?_
    refine Stk.run 2 (fun t H n => t 0 = .ssl (encs c97 a0) a0.length false ∧ t 2 = .ssl (encs c37 a2) a2.length false ∧ t 7 = .ssl (encs c97 x7.1) x7.1.length false ∧ t 8 = .sc (.int .i64 x7.2) ∧ t 9 = .ssl (encs c97 x8.1) x8.1.length false ∧ t 10 = .sc (.int .i64 x8.2) ∧ t 11 = .ssl (encs c97 x9.1) x9.1.length false ∧ t 12 = .sc (.int .i64 x9.2) ∧ t 13 = .ssl (encs c97 x10.1) x10.1.length false ∧ t 14 = .sc (.int .i64 x10.2) ∧ t 15 = .ssl (encs c97 x11.1) x11.1.length false ∧ t 16 = .sc (.int .i64 x11.2) ∧ t 65 = .ssl (encs c97 a0) a0.length false ∧ t 66 = .ssl (encs c97 a1) a1.length false) (fun J hJ => ?_) ?_
    · simp [-splice, f0, f1, f2, f7, f8, f9, f10, f11, f12, f13, f14, f15, f16]
      exact hJ _ _ _ ⟨by simp [f0], by simp [f2], by simp [f7], by simp [f8], by simp [f9], by simp [f10], by simp [f11], by simp [f12], by simp [f13], by simp [f14], by simp [f15], by simp [f16], by simp [-splice, f0, f1, f2, f7, f8, f9, f10, f11, f12, f13, f14, f15, f16], by simp [-splice, f0, f1, f2, f7, f8, f9, f10, f11, f12, f13, f14, f15, f16]⟩
    clear f0 f1 f2 f7 f8 f9 f10 f11 f12 f13 f14 f15 f16
    rintro t H n ⟨f0, f2, f7, f8, f9, f10, f11, f12, f13, f14, f15, f16, f65, f66⟩
    obtain ⟨x12, hx12, h⟩ := bnd h
    refine Stk.cv (g := 29) (args := [.ssl (encs c97 a0) a0.length false, .ssl (encs c97 a1) a1.length false]) (args' := [.ssl (encs c97 a0) a0.length false, .ssl (encs c97 a1) a1.length false]) (v := .tup [.ssl (encs c97 x12.1) x12.1.length false, .sc (.int .i64 x12.2)]) [] (ok_R13_Max F _ _ _ hx12) (by simp [f0, f2, f7, f8, f9, f10, f11, f12, f13, f14, f15, f16, f65, f66]) rfl rfl (by simp [f0, f2, f7, f8, f9, f10, f11, f12, f13, f14, f15, f16, f65, f66]) (.cons (.free (freeL_encs fr97 _)) (.cons (.free (freeL_encs fr97 _)) (.nil))) (.inl ⟨rfl, by simp [free, freeL, freeL_encs fr97]⟩) (fun t' ht' => ?_)
    refine Stk.gen (fun t H n => t 0 = .ssl (encs c97 a0) a0.length false ∧ t 2 = .ssl (encs c37 a2) a2.length false ∧ t 7 = .ssl (encs c97 x7.1) x7.1.length false ∧ t 8 = .sc (.int .i64 x7.2) ∧ t 9 = .ssl (encs c97 x8.1) x8.1.length false ∧ t 10 = .sc (.int .i64 x8.2) ∧ t 11 = .ssl (encs c97 x9.1) x9.1.length false ∧ t 12 = .sc (.int .i64 x9.2) ∧ t 13 = .ssl (encs c97 x10.1) x10.1.length false ∧ t 14 = .sc (.int .i64 x10.2) ∧ t 15 = .ssl (encs c97 x11.1) x11.1.length false ∧ t 16 = .sc (.int .i64 x11.2) ∧ t 67 = .tup [.ssl (encs c97 x12.1) x12.1.length false, .sc (.int .i64 x12.2)]) ⟨by simp [ht', f0], by simp [ht', f2], by simp [ht', f7], by simp [ht', f8], by simp [ht', f9], by simp [ht', f10], by simp [ht', f11], by simp [ht', f12], by simp [ht', f13], by simp [ht', f14], by simp [ht', f15], by simp [ht', f16], by simp [ht']⟩ ?_
    clear f0 f2 f7 f8 f9 f10 f11 f12 f13 f14 f15 f16 f65 f66 ht' t'
    rintro t H n ⟨f0, f2, f7, f8, f9, f10, f11, f12, f13, f14, f15, f16, f67⟩
    refine Stk.run 5 (fun t H n => t 0 = .ssl (encs c97 a0) a0.length false ∧ t 2 = .ssl (encs c37 a2) a2.length false ∧ t 7 = .ssl (encs c97 x7.1) x7.1.length false ∧ t 8 = .sc (.int .i64 x7.2) ∧ t 9 = .ssl (encs c97 x8.1) x8.1.length false ∧ t 10 = .sc (.int .i64 x8.2) ∧ t 11 = .ssl (encs c97 x9.1) x9.1.length false ∧ t 12 = .sc (.int .i64 x9.2) ∧ t 13 = .ssl (encs c97 x10.1) x10.1.length false ∧ t 14 = .sc (.int .i64 x10.2) ∧ t 15 = .ssl (encs c97 x11.1) x11.1.length false ∧ t 16 = .sc (.int .i64 x11.2) ∧ t 17 = .ssl (encs c97 x12.1) x12.1.length false ∧ t 18 = .sc (.int .i64 x12.2)) (fun J hJ => ?_) ?_
    · simp [-splice, f0, f2, f7, f8, f9, f10, f11, f12, f13, f14, f15, f16, f67]
      exact hJ _ _ _ ⟨by simp [f0], by simp [f2], by simp [f7], by simp [f8], by simp [f9], by simp [f10], by simp [f11], by simp [f12], by simp [f13], by simp [f14], by simp [f15], by simp [f16], by simp [-splice, f0, f2, f7, f8, f9, f10, f11, f12, f13, f14, f15, f16, f67], by simp [-splice, f0, f2, f7, f8, f9, f10, f11, f12, f13, f14, f15, f16, f67]⟩
    clear f0 f2 f7 f8 f9 f10 f11 f12 f13 f14 f15 f16 f67
    rintro t H n ⟨f0, f2, f7, f8, f9, f10, f11, f12, f13, f14, f15, f16, f17, f18⟩
    refine Stk.on ?_
    refine Stk.sq ?_
    refine Stk.rg ?_
    refine Stk.run 2 (fun t H n => t 0 = .ssl (encs c97 a0) a0.length false ∧ t 2 = .ssl (encs c37 a2) a2.length false ∧ t 7 = .ssl (encs c97 x7.1) x7.1.length false ∧ t 8 = .sc (.int .i64 x7.2) ∧ t 9 = .ssl (encs c97 x8.1) x8.1.length false ∧ t 10 = .sc (.int .i64 x8.2) ∧ t 11 = .ssl (encs c97 x9.1) x9.1.length false ∧ t 12 = .sc (.int .i64 x9.2) ∧ t 13 = .ssl (encs c97 x10.1) x10.1.length false ∧ t 14 = .sc (.int .i64 x10.2) ∧ t 15 = .ssl (encs c97 x11.1) x11.1.length false ∧ t 16 = .sc (.int .i64 x11.2) ∧ t 17 = .ssl (encs c97 x12.1) x12.1.length false ∧ t 18 = .sc (.int .i64 x12.2) ∧ t 71 = .ssl (encs c97 a0) a0.length false ∧ t 72 = .ssl (encs c37 a2) a2.length false) (fun J hJ => ?_) ?_
    · simp [-splice, f0, f2, f7, f8, f9, f10, f11, f12, f13, f14, f15, f16, f17, f18]
      exact hJ _ _ _ ⟨by simp [f0], by simp [f2], by simp [f7], by simp [f8], by simp [f9], by simp [f10], by simp [f11], by simp [f12], by simp [f13], by simp [f14], by simp [f15], by simp [f16], by simp [f17], by simp [f18], by simp [-splice, f0, f2, f7, f8, f9, f10, f11, f12, f13, f14, f15, f16, f17, f18], by simp [-splice, f0, f2, f7, f8, f9, f10, f11, f12, f13, f14, f15, f16, f17, f18]⟩
    clear f0 f2 f7 f8 f9 f10 f11 f12 f13 f14 f15 f16 f17 f18
    rintro t H n ⟨f0, f2, f7, f8, f9, f10, f11, f12, f13, f14, f15, f16, f17, f18, f71, f72⟩
    obtain ⟨x13, hx13, h⟩ := bnd h
    refine Stk.cv (g := 26) (args := [.ssl (encs c97 a0) a0.length false, .ssl (encs c37 a2) a2.length false]) (args' := [.ssl (encs c97 a0) a0.length false, .ssl (encs c37 a2) a2.length false]) (v := .tup [.ssl (encs c97 x13.1) x13.1.length false, .sc (.int .i64 x13.2)]) [] (ok_poly_Put F _ _ _ hx13) (by simp [f0, f2, f7, f8, f9, f10, f11, f12, f13, f14, f15, f16, f17, f18, f71, f72]) rfl rfl (by simp [f0, f2, f7, f8, f9, f10, f11, f12, f13, f14, f15, f16, f17, f18, f71, f72]) (.cons (.free (freeL_encs fr97 _)) (.cons (.free (freeL_encs fr37 _)) (.nil))) (.inl ⟨rfl, by simp [free, freeL, freeL_encs fr97]⟩) (fun t' ht' => ?_)
    refine Stk.gen (fun t H n => t 0 = .ssl (encs c97 a0) a0.length false ∧ t 2 = .ssl (encs c37 a2) a2.length false ∧ t 7 = .ssl (encs c97 x7.1) x7.1.length false ∧ t 8 = .sc (.int .i64 x7.2) ∧ t 9 = .ssl (encs c97 x8.1) x8.1.length false ∧ t 10 = .sc (.int .i64 x8.2) ∧ t 11 = .ssl (encs c97 x9.1) x9.1.length false ∧ t 12 = .sc (.int .i64 x9.2) ∧ t 13 = .ssl (encs c97 x10.1) x10.1.length false ∧ t 14 = .sc (.int .i64 x10.2) ∧ t 15 = .ssl (encs c97 x11.1) x11.1.length false ∧ t 16 = .sc (.int .i64 x11.2) ∧ t 17 = .ssl (encs c97 x12.1) x12.1.length false ∧ t 18 = .sc (.int .i64 x12.2) ∧ t 73 = .tup [.ssl (encs c97 x13.1) x13.1.length false, .sc (.int .i64 x13.2)]) ⟨by simp [ht', f0], by simp [ht', f2], by simp [ht', f7], by simp [ht', f8], by simp [ht', f9], by simp [ht', f10], by simp [ht', f11], by simp [ht', f12], by simp [ht', f13], by simp [ht', f14], by simp [ht', f15], by simp [ht', f16], by simp [ht', f17], by simp [ht', f18], by simp [ht']⟩ ?_
    clear f0 f2 f7 f8 f9 f10 f11 f12 f13 f14 f15 f16 f17 f18 f71 f72 ht' t'
    rintro t H n ⟨f0, f2, f7, f8, f9, f10, f11, f12, f13, f14, f15, f16, f17, f18, f73⟩
    refine Stk.run 5 (fun t H n => t 0 = .ssl (encs c97 a0) a0.length false ∧ t 2 = .ssl (encs c37 a2) a2.length false ∧ t 7 = .ssl (encs c97 x7.1) x7.1.length false ∧ t 8 = .sc (.int .i64 x7.2) ∧ t 9 = .ssl (encs c97 x8.1) x8.1.length false ∧ t 10 = .sc (.int .i64 x8.2) ∧ t 11 = .ssl (encs c97 x9.1) x9.1.length false ∧ t 12 = .sc (.int .i64 x9.2) ∧ t 13 = .ssl (encs c97 x10.1) x10.1.length false ∧ t 14 = .sc (.int .i64 x10.2) ∧ t 15 = .ssl (encs c97 x11.1) x11.1.length false ∧ t 16 = .sc (.int .i64 x11.2) ∧ t 17 = .ssl (encs c97 x12.1) x12.1.length false ∧ t 18 = .sc (.int .i64 x12.2) ∧ t 19 = .ssl (encs c97 x13.1) x13.1.length false ∧ t 20 = .sc (.int .i64 x13.2)) (fun J hJ => ?_) ?_
    · simp [-splice, f0, f2, f7, f8, f9, f10, f11, f12, f13, f14, f15, f16, f17, f18, f73]
      exact hJ _ _ _ ⟨by simp [f0], by simp [f2], by simp [f7], by simp [f8], by simp [f9], by simp [f10], by simp [f11], by simp [f12], by simp [f13], by simp [f14], by simp [f15], by simp [f16], by simp [f17], by simp [f18], by simp [-splice, f0, f2, f7, f8, f9, f10, f11, f12, f13, f14, f15, f16, f17, f18, f73], by simp [-splice, f0, f2, f7, f8, f9, f10, f11, f12, f13, f14, f15, f16, f17, f18, f73]⟩
    clear f0 f2 f7 f8 f9 f10 f11 f12 f13 f14 f15 f16 f17 f18 f73
    rintro t H n ⟨f0, f2, f7, f8, f9, f10, f11, f12, f13, f14, f15, f16, f17, f18, f19, f20⟩
    refine Stk.on ?_
    refine Stk.sq ?_
    refine Stk.rg ?_
    refine Stk.run 2 (fun t H n => t 7 = .ssl (encs c97 x7.1) x7.1.length false ∧ t 8 = .sc (.int .i64 x7.2) ∧ t 9 = .ssl (encs c97 x8.1) x8.1.length false ∧ t 10 = .sc (.int .i64 x8.2) ∧ t 11 = .ssl (encs c97 x9.1) x9.1.length false ∧ t 12 = .sc (.int .i64 x9.2) ∧ t 13 = .ssl (encs c97 x10.1) x10.1.length false ∧ t 14 = .sc (.int .i64 x10.2) ∧ t 15 = .ssl (encs c97 x11.1) x11.1.length false ∧ t 16 = .sc (.int .i64 x11.2) ∧ t 17 = .ssl (encs c97 x12.1) x12.1.length false ∧ t 18 = .sc (.int .i64 x12.2) ∧ t 19 = .ssl (encs c97 x13.1) x13.1.length false ∧ t 20 = .sc (.int .i64 x13.2) ∧ t 77 = .ssl (encs c97 a0) a0.length false ∧ t 78 = .ssl (encs c37 a2) a2.length false) (fun J hJ => ?_) ?_
    · simp [-splice, f0, f2, f7, f8, f9, f10, f11, f12, f13, f14, f15, f16, f17, f18, f19, f20]
      exact hJ _ _ _ ⟨by simp [f7], by simp [f8], by simp [f9], by simp [f10], by simp [f11], by simp [f12], by simp [f13], by simp [f14], by simp [f15], by simp [f16], by simp [f17], by simp [f18], by simp [f19], by simp [f20], by simp [-splice, f0, f2, f7, f8, f9, f10, f11, f12, f13, f14, f15, f16, f17, f18, f19, f20], by simp [-splice, f0, f2, f7, f8, f9, f10, f11, f12, f13, f14, f15, f16, f17, f18, f19, f20]⟩
    clear f0 f2 f7 f8 f9 f10 f11 f12 f13 f14 f15 f16 f17 f18 f19 f20
    rintro t H n ⟨f7, f8, f9, f10, f11, f12, f13, f14, f15, f16, f17, f18, f19, f20, f77, f78⟩
    obtain ⟨x14, hx14, h⟩ := bnd h
    refine Stk.cv (g := 30) (args := [.ssl (encs c97 a0) a0.length false, .ssl (encs c37 a2) a2.length false]) (args' := [.ssl (encs c97 a0) a0.length false, .ssl (encs c37 a2) a2.length false]) (v := .tup [.ssl (encs c97 x14.1) x14.1.length false, .sc (.int .i64 x14.2)]) [] (ok_R13_Put F _ _ _ hx14) (by simp [f7, f8, f9, f10, f11, f12, f13, f14, f15, f16, f17, f18, f19, f20, f77, f78]) rfl rfl (by simp [f7, f8, f9, f10, f11, f12, f13, f14, f15, f16, f17, f18, f19, f20, f77, f78]) (.cons (.free (freeL_encs fr97 _)) (.cons (.free (freeL_encs fr37 _)) (.nil))) (.inl ⟨rfl, by simp [free, freeL, freeL_encs fr97]⟩) (fun t' ht' => ?_)
    refine Stk.gen (fun t H n => t 7 = .ssl (encs c97 x7.1) x7.1.length false ∧ t 8 = .sc (.int .i64 x7.2) ∧ t 9 = .ssl (encs c97 x8.1) x8.1.length false ∧ t 10 = .sc (.int .i64 x8.2) ∧ t 11 = .ssl (encs c97 x9.1) x9.1.length false ∧ t 12 = .sc (.int .i64 x9.2) ∧ t 13 = .ssl (encs c97 x10.1) x10.1.length false ∧ t 14 = .sc (.int .i64 x10.2) ∧ t 15 = .ssl (encs c97 x11.1) x11.1.length false ∧ t 16 = .sc (.int .i64 x11.2) ∧ t 17 = .ssl (encs c97 x12.1) x12.1.length false ∧ t 18 = .sc (.int .i64 x12.2) ∧ t 19 = .ssl (encs c97 x13.1) x13.1.length false ∧ t 20 = .sc (.int .i64 x13.2) ∧ t 79 = .tup [.ssl (encs c97 x14.1) x14.1.length false, .sc (.int .i64 x14.2)]) ⟨by simp [ht', f7], by simp [ht', f8], by simp [ht', f9], by simp [ht', f10], by simp [ht', f11], by simp [ht', f12], by simp [ht', f13], by simp [ht', f14], by simp [ht', f15], by simp [ht', f16], by simp [ht', f17], by simp [ht', f18], by simp [ht', f19], by simp [ht', f20], by simp [ht']⟩ ?_
    clear f7 f8 f9 f10 f11 f12 f13 f14 f15 f16 f17 f18 f19 f20 f77 f78 ht' t'
    rintro t H n ⟨f7, f8, f9, f10, f11, f12, f13, f14, f15, f16, f17, f18, f19, f20, f79⟩
    refine Stk.run 5 (fun t H n => t 7 = .ssl (encs c97 x7.1) x7.1.length false ∧ t 8 = .sc (.int .i64 x7.2) ∧ t 9 = .ssl (encs c97 x8.1) x8.1.length false ∧ t 10 = .sc (.int .i64 x8.2) ∧ t 11 = .ssl (encs c97 x9.1) x9.1.length false ∧ t 12 = .sc (.int .i64 x9.2) ∧ t 13 = .ssl (encs c97 x10.1) x10.1.length false ∧ t 14 = .sc (.int .i64 x10.2) ∧ t 15 = .ssl (encs c97 x11.1) x11.1.length false ∧ t 16 = .sc (.int .i64 x11.2) ∧ t 17 = .ssl (encs c97 x12.1) x12.1.length false ∧ t 18 = .sc (.int .i64 x12.2) ∧ t 19 = .ssl (encs c97 x13.1) x13.1.length false ∧ t 20 = .sc (.int .i64 x13.2) ∧ t 21 = .ssl (encs c97 x14.1) x14.1.length false ∧ t 22 = .sc (.int .i64 x14.2)) (fun J hJ => ?_) ?_
    · simp [-splice, f7, f8, f9, f10, f11, f12, f13, f14, f15, f16, f17, f18, f19, f20, f79]
      exact hJ _ _ _ ⟨by simp [f7], by simp [f8], by simp [f9], by simp [f10], by simp [f11], by simp [f12], by simp [f13], by simp [f14], by simp [f15], by simp [f16], by simp [f17], by simp [f18], by simp [f19], by simp [f20], by simp [-splice, f7, f8, f9, f10, f11, f12, f13, f14, f15, f16, f17, f18, f19, f20, f79], by simp [-splice, f7, f8, f9, f10, f11, f12, f13, f14, f15, f16, f17, f18, f19, f20, f79]⟩
    clear f7 f8 f9 f10 f11 f12 f13 f14 f15 f16 f17 f18 f19 f20 f79
    rintro t H n ⟨f7, f8, f9, f10, f11, f12, f13, f14, f15, f16, f17, f18, f19, f20, f21, f22⟩
    refine Stk.on ?_
    refine Stk.sq ?_
    refine Stk.rg ?_
    refine Stk.run 2 (fun t H n => t 8 = .sc (.int .i64 x7.2) ∧ t 10 = .sc (.int .i64 x8.2) ∧ t 11 = .ssl (encs c97 x9.1) x9.1.length false ∧ t 12 = .sc (.int .i64 x9.2) ∧ t 13 = .ssl (encs c97 x10.1) x10.1.length false ∧ t 14 = .sc (.int .i64 x10.2) ∧ t 15 = .ssl (encs c97 x11.1) x11.1.length false ∧ t 16 = .sc (.int .i64 x11.2) ∧ t 17 = .ssl (encs c97 x12.1) x12.1.length false ∧ t 18 = .sc (.int .i64 x12.2) ∧ t 19 = .ssl (encs c97 x13.1) x13.1.length false ∧ t 20 = .sc (.int .i64 x13.2) ∧ t 21 = .ssl (encs c97 x14.1) x14.1.length false ∧ t 22 = .sc (.int .i64 x14.2) ∧ t 82 = .ssl (encs c97 x7.1) x7.1.length false ∧ t 83 = .ssl (encs c97 x8.1) x8.1.length false) (fun J hJ => ?_) ?_
    · simp [-splice, f7, f8, f9, f10, f11, f12, f13, f14, f15, f16, f17, f18, f19, f20, f21, f22]
      exact hJ _ _ _ ⟨by simp [f8], by simp [f10], by simp [f11], by simp [f12], by simp [f13], by simp [f14], by simp [f15], by simp [f16], by simp [f17], by simp [f18], by simp [f19], by simp [f20], by simp [f21], by simp [f22], by simp [-splice, f7, f8, f9, f10, f11, f12, f13, f14, f15, f16, f17, f18, f19, f20, f21, f22], by simp [-splice, f7, f8, f9, f10, f11, f12, f13, f14, f15, f16, f17, f18, f19, f20, f21, f22]⟩
    clear f7 f8 f9 f10 f11 f12 f13 f14 f15 f16 f17 f18 f19 f20 f21 f22
    rintro t H n ⟨f8, f10, f11, f12, f13, f14, f15, f16, f17, f18, f19, f20, f21, f22, f82, f83⟩
    obtain ⟨x15, hx15, h⟩ := bnd h
    refine Stk.cv (g := 22) (args := [.ssl (encs c97 x7.1) x7.1.length false, .ssl (encs c97 x8.1) x8.1.length false]) (args' := [.ssl (encs c97 x7.1) x7.1.length false, .ssl (encs c97 x8.1) x8.1.length false]) (v := .sc (.bool x15)) [] (ok_R13_Same F _ _ _ hx15) (by simp [f8, f10, f11, f12, f13, f14, f15, f16, f17, f18, f19, f20, f21, f22, f82, f83]) rfl rfl (by simp [f8, f10, f11, f12, f13, f14, f15, f16, f17, f18, f19, f20, f21, f22, f82, f83]) (.cons (.free (freeL_encs fr97 _)) (.cons (.free (freeL_encs fr97 _)) (.nil))) (.inl ⟨rfl, rfl⟩) (fun t' ht' => ?_)
    refine Stk.gen (fun t H n => t 8 = .sc (.int .i64 x7.2) ∧ t 10 = .sc (.int .i64 x8.2) ∧ t 11 = .ssl (encs c97 x9.1) x9.1.length false ∧ t 12 = .sc (.int .i64 x9.2) ∧ t 13 = .ssl (encs c97 x10.1) x10.1.length false ∧ t 14 = .sc (.int .i64 x10.2) ∧ t 15 = .ssl (encs c97 x11.1) x11.1.length false ∧ t 16 = .sc (.int .i64 x11.2) ∧ t 17 = .ssl (encs c97 x12.1) x12.1.length false ∧ t 18 = .sc (.int .i64 x12.2) ∧ t 19 = .ssl (encs c97 x13.1) x13.1.length false ∧ t 20 = .sc (.int .i64 x13.2) ∧ t 21 = .ssl (encs c97 x14.1) x14.1.length false ∧ t 22 = .sc (.int .i64 x14.2) ∧ t 84 = .sc (.bool x15)) ⟨by simp [ht', f8], by simp [ht', f10], by simp [ht', f11], by simp [ht', f12], by simp [ht', f13], by simp [ht', f14], by simp [ht', f15], by simp [ht', f16], by simp [ht', f17], by simp [ht', f18], by simp [ht', f19], by simp [ht', f20], by simp [ht', f21], by simp [ht', f22], by simp [ht']⟩ ?_
    clear f8 f10 f11 f12 f13 f14 f15 f16 f17 f18 f19 f20 f21 f22 f82 f83 ht' t'
    rintro t H n ⟨f8, f10, f11, f12, f13, f14, f15, f16, f17, f18, f19, f20, f21, f22, f84⟩
    refine Stk.run 1 (fun t H n => t 8 = .sc (.int .i64 x7.2) ∧ t 10 = .sc (.int .i64 x8.2) ∧ t 11 = .ssl (encs c97 x9.1) x9.1.length false ∧ t 12 = .sc (.int .i64 x9.2) ∧ t 13 = .ssl (encs c97 x10.1) x10.1.length false ∧ t 14 = .sc (.int .i64 x10.2) ∧ t 15 = .ssl (encs c97 x11.1) x11.1.length false ∧ t 16 = .sc (.int .i64 x11.2) ∧ t 17 = .ssl (encs c97 x12.1) x12.1.length false ∧ t 18 = .sc (.int .i64 x12.2) ∧ t 19 = .ssl (encs c97 x13.1) x13.1.length false ∧ t 20 = .sc (.int .i64 x13.2) ∧ t 21 = .ssl (encs c97 x14.1) x14.1.length false ∧ t 22 = .sc (.int .i64 x14.2) ∧ t 85 = .sc (.bool x15)) (fun J hJ => ?_) ?_
    · simp [-splice, f8, f10, f11, f12, f13, f14, f15, f16, f17, f18, f19, f20, f21, f22, f84]
      exact hJ _ _ _ ⟨by simp [f8], by simp [f10], by simp [f11], by simp [f12], by simp [f13], by simp [f14], by simp [f15], by simp [f16], by simp [f17], by simp [f18], by simp [f19], by simp [f20], by simp [f21], by simp [f22], by simp [-splice, f8, f10, f11, f12, f13, f14, f15, f16, f17, f18, f19, f20, f21, f22, f84]⟩
    clear f8 f10 f11 f12 f13 f14 f15 f16 f17 f18 f19 f20 f21 f22 f84
    rintro t H n ⟨f8, f10, f11, f12, f13, f14, f15, f16, f17, f18, f19, f20, f21, f22, f85⟩
    refine Stk.jo 4 (fun t H n => t 11 = .ssl (encs c97 x9.1) x9.1.length false ∧ t 12 = .sc (.int .i64 x9.2) ∧ t 13 = .ssl (encs c97 x10.1) x10.1.length false ∧ t 14 = .sc (.int .i64 x10.2) ∧ t 15 = .ssl (encs c97 x11.1) x11.1.length false ∧ t 16 = .sc (.int .i64 x11.2) ∧ t 17 = .ssl (encs c97 x12.1) x12.1.length false ∧ t 18 = .sc (.int .i64 x12.2) ∧ t 19 = .ssl (encs c97 x13.1) x13.1.length false ∧ t 20 = .sc (.int .i64 x13.2) ∧ t 21 = .ssl (encs c97 x14.1) x14.1.length false ∧ t 22 = .sc (.int .i64 x14.2) ∧ t 89 = .sc (.bool (x15 && (x7.2 == x8.2)))) (fun J2 hJ2 => ?_) ?_
    · rcases Bool.eq_false_or_eq_true x15 with hb2 | hb2
      · rw [hb2] at f85
        refine Stk.run 4 (fun t H n => t 11 = .ssl (encs c97 x9.1) x9.1.length false ∧ t 12 = .sc (.int .i64 x9.2) ∧ t 13 = .ssl (encs c97 x10.1) x10.1.length false ∧ t 14 = .sc (.int .i64 x10.2) ∧ t 15 = .ssl (encs c97 x11.1) x11.1.length false ∧ t 16 = .sc (.int .i64 x11.2) ∧ t 17 = .ssl (encs c97 x12.1) x12.1.length false ∧ t 18 = .sc (.int .i64 x12.2) ∧ t 19 = .ssl (encs c97 x13.1) x13.1.length false ∧ t 20 = .sc (.int .i64 x13.2) ∧ t 21 = .ssl (encs c97 x14.1) x14.1.length false ∧ t 22 = .sc (.int .i64 x14.2) ∧ t 89 = .sc (.bool (x7.2 == x8.2))) (fun J hJ => ?_) ?_
        · simp [-splice, f8, f10, f11, f12, f13, f14, f15, f16, f17, f18, f19, f20, f21, f22, f85]
          exact hJ _ _ _ ⟨by simp [f11], by simp [f12], by simp [f13], by simp [f14], by simp [f15], by simp [f16], by simp [f17], by simp [f18], by simp [f19], by simp [f20], by simp [f21], by simp [f22], by simp [-splice, f8, f10, f11, f12, f13, f14, f15, f16, f17, f18, f19, f20, f21, f22, f85]⟩
        clear f8 f10 f11 f12 f13 f14 f15 f16 f17 f18 f19 f20 f21 f22 f85
        rintro t H n ⟨f11, f12, f13, f14, f15, f16, f17, f18, f19, f20, f21, f22, f89⟩
        refine Stk.on ?_
        exact Stk.ln 0 (by decide) (hJ2 _ _ _ ⟨f11, f12, f13, f14, f15, f16, f17, f18, f19, f20, f21, f22, f89.trans (congrArg (fun q => AV.sc (.bool q)) (by rw [hb2]; rfl))⟩)
      · rw [hb2] at f85
        refine Stk.run 4 (fun t H n => t 11 = .ssl (encs c97 x9.1) x9.1.length false ∧ t 12 = .sc (.int .i64 x9.2) ∧ t 13 = .ssl (encs c97 x10.1) x10.1.length false ∧ t 14 = .sc (.int .i64 x10.2) ∧ t 15 = .ssl (encs c97 x11.1) x11.1.length false ∧ t 16 = .sc (.int .i64 x11.2) ∧ t 17 = .ssl (encs c97 x12.1) x12.1.length false ∧ t 18 = .sc (.int .i64 x12.2) ∧ t 19 = .ssl (encs c97 x13.1) x13.1.length false ∧ t 20 = .sc (.int .i64 x13.2) ∧ t 21 = .ssl (encs c97 x14.1) x14.1.length false ∧ t 22 = .sc (.int .i64 x14.2) ∧ t 89 = .sc (.bool false)) (fun J hJ => ?_) ?_
        · simp [-splice, f8, f10, f11, f12, f13, f14, f15, f16, f17, f18, f19, f20, f21, f22, f85]
          exact hJ _ _ _ ⟨by simp [f11], by simp [f12], by simp [f13], by simp [f14], by simp [f15], by simp [f16], by simp [f17], by simp [f18], by simp [f19], by simp [f20], by simp [f21], by simp [f22], by simp [-splice, f8, f10, f11, f12, f13, f14, f15, f16, f17, f18, f19, f20, f21, f22, f85]⟩
        clear f8 f10 f11 f12 f13 f14 f15 f16 f17 f18 f19 f20 f21 f22 f85
        rintro t H n ⟨f11, f12, f13, f14, f15, f16, f17, f18, f19, f20, f21, f22, f89⟩
        refine Stk.on ?_
        exact Stk.ln 0 (by decide) (hJ2 _ _ _ ⟨f11, f12, f13, f14, f15, f16, f17, f18, f19, f20, f21, f22, f89.trans (congrArg (fun q => AV.sc (.bool q)) (by rw [hb2]; rfl))⟩)
    clear f8 f10 f11 f12 f13 f14 f15 f16 f17 f18 f19 f20 f21 f22 f85
    rintro t H n ⟨f11, f12, f13, f14, f15, f16, f17, f18, f19, f20, f21, f22, f89⟩
    refine Stk.run 1 (fun t H n => t 11 = .ssl (encs c97 x9.1) x9.1.length false ∧ t 12 = .sc (.int .i64 x9.2) ∧ t 13 = .ssl (encs c97 x10.1) x10.1.length false ∧ t 14 = .sc (.int .i64 x10.2) ∧ t 15 = .ssl (encs c97 x11.1) x11.1.length false ∧ t 16 = .sc (.int .i64 x11.2) ∧ t 17 = .ssl (encs c97 x12.1) x12.1.length false ∧ t 18 = .sc (.int .i64 x12.2) ∧ t 19 = .ssl (encs c97 x13.1) x13.1.length false ∧ t 20 = .sc (.int .i64 x13.2) ∧ t 21 = .ssl (encs c97 x14.1) x14.1.length false ∧ t 22 = .sc (.int .i64 x14.2) ∧ t 90 = .sc (.bool (x15 && (x7.2 == x8.2)))) (fun J hJ => ?_) ?_
    · simp [-splice, f11, f12, f13, f14, f15, f16, f17, f18, f19, f20, f21, f22, f89]
      exact hJ _ _ _ ⟨by simp [f11], by simp [f12], by simp [f13], by simp [f14], by simp [f15], by simp [f16], by simp [f17], by simp [f18], by simp [f19], by simp [f20], by simp [f21], by simp [f22], by simp [-splice, f11, f12, f13, f14, f15, f16, f17, f18, f19, f20, f21, f22, f89]⟩
    clear f11 f12 f13 f14 f15 f16 f17 f18 f19 f20 f21 f22 f89
    rintro t H n ⟨f11, f12, f13, f14, f15, f16, f17, f18, f19, f20, f21, f22, f90⟩
    obtain ⟨K3, hK3, h⟩ := jnd h
    refine Stk.jo 4 (fun t H n => ∃ v16 : Bool, K3 v16 = some r ∧ t 12 = .sc (.int .i64 x9.2) ∧ t 14 = .sc (.int .i64 x10.2) ∧ t 15 = .ssl (encs c97 x11.1) x11.1.length false ∧ t 16 = .sc (.int .i64 x11.2) ∧ t 17 = .ssl (encs c97 x12.1) x12.1.length false ∧ t 18 = .sc (.int .i64 x12.2) ∧ t 19 = .ssl (encs c97 x13.1) x13.1.length false ∧ t 20 = .sc (.int .i64 x13.2) ∧ t 21 = .ssl (encs c97 x14.1) x14.1.length false ∧ t 22 = .sc (.int .i64 x14.2) ∧ t 94 = .sc (.bool v16)) (fun J3 hJ3 => ?_) ?_
    · rcases Bool.eq_false_or_eq_true (x15 && (x7.2 == x8.2)) with hb3 | hb3
      · rw [hb3] at f90
        replace h := cT hb3 h
        refine Stk.run 2 (fun t H n => t 12 = .sc (.int .i64 x9.2) ∧ t 14 = .sc (.int .i64 x10.2) ∧ t 15 = .ssl (encs c97 x11.1) x11.1.length false ∧ t 16 = .sc (.int .i64 x11.2) ∧ t 17 = .ssl (encs c97 x12.1) x12.1.length false ∧ t 18 = .sc (.int .i64 x12.2) ∧ t 19 = .ssl (encs c97 x13.1) x13.1.length false ∧ t 20 = .sc (.int .i64 x13.2) ∧ t 21 = .ssl (encs c97 x14.1) x14.1.length false ∧ t 22 = .sc (.int .i64 x14.2) ∧ t 90 = .sc (.bool true) ∧ t 91 = .ssl (encs c97 x9.1) x9.1.length false ∧ t 92 = .ssl (encs c97 x10.1) x10.1.length false) (fun J hJ => ?_) ?_
        · simp [-splice, f11, f12, f13, f14, f15, f16, f17, f18, f19, f20, f21, f22, f90]
          exact hJ _ _ _ ⟨by simp [f12], by simp [f14], by simp [f15], by simp [f16], by simp [f17], by simp [f18], by simp [f19], by simp [f20], by simp [f21], by simp [f22], by simp [f90], by simp [-splice, f11, f12, f13, f14, f15, f16, f17, f18, f19, f20, f21, f22, f90], by simp [-splice, f11, f12, f13, f14, f15, f16, f17, f18, f19, f20, f21, f22, f90]⟩
        clear f11 f12 f13 f14 f15 f16 f17 f18 f19 f20 f21 f22 f90
        rintro t H n ⟨f12, f14, f15, f16, f17, f18, f19, f20, f21, f22, f90, f91, f92⟩
        obtain ⟨x17, hx17, h⟩ := bnd h
        refine Stk.cv (g := 22) (args := [.ssl (encs c97 x9.1) x9.1.length false, .ssl (encs c97 x10.1) x10.1.length false]) (args' := [.ssl (encs c97 x9.1) x9.1.length false, .ssl (encs c97 x10.1) x10.1.length false]) (v := .sc (.bool x17)) [] (ok_R13_Same F _ _ _ hx17) (by simp [f12, f14, f15, f16, f17, f18, f19, f20, f21, f22, f90, f91, f92]) rfl rfl (by simp [f12, f14, f15, f16, f17, f18, f19, f20, f21, f22, f90, f91, f92]) (.cons (.free (freeL_encs fr97 _)) (.cons (.free (freeL_encs fr97 _)) (.nil))) (.inl ⟨rfl, rfl⟩) (fun t' ht' => ?_)
        refine Stk.gen (fun t H n => t 12 = .sc (.int .i64 x9.2) ∧ t 14 = .sc (.int .i64 x10.2) ∧ t 15 = .ssl (encs c97 x11.1) x11.1.length false ∧ t 16 = .sc (.int .i64 x11.2) ∧ t 17 = .ssl (encs c97 x12.1) x12.1.length false ∧ t 18 = .sc (.int .i64 x12.2) ∧ t 19 = .ssl (encs c97 x13.1) x13.1.length false ∧ t 20 = .sc (.int .i64 x13.2) ∧ t 21 = .ssl (encs c97 x14.1) x14.1.length false ∧ t 22 = .sc (.int .i64 x14.2) ∧ t 90 = .sc (.bool true) ∧ t 93 = .sc (.bool x17)) ⟨by simp [ht', f12], by simp [ht', f14], by simp [ht', f15], by simp [ht', f16], by simp [ht', f17], by simp [ht', f18], by simp [ht', f19], by simp [ht', f20], by simp [ht', f21], by simp [ht', f22], by simp [ht', f90], by simp [ht']⟩ ?_
        clear f12 f14 f15 f16 f17 f18 f19 f20 f21 f22 f90 f91 f92 ht' t'
        rintro t H n ⟨f12, f14, f15, f16, f17, f18, f19, f20, f21, f22, f90, f93⟩
        refine Stk.run 1 (fun t H n => t 12 = .sc (.int .i64 x9.2) ∧ t 14 = .sc (.int .i64 x10.2) ∧ t 15 = .ssl (encs c97 x11.1) x11.1.length false ∧ t 16 = .sc (.int .i64 x11.2) ∧ t 17 = .ssl (encs c97 x12.1) x12.1.length false ∧ t 18 = .sc (.int .i64 x12.2) ∧ t 19 = .ssl (encs c97 x13.1) x13.1.length false ∧ t 20 = .sc (.int .i64 x13.2) ∧ t 21 = .ssl (encs c97 x14.1) x14.1.length false ∧ t 22 = .sc (.int .i64 x14.2) ∧ t 94 = .sc (.bool x17)) (fun J hJ => ?_) ?_
        · simp [-splice, f12, f14, f15, f16, f17, f18, f19, f20, f21, f22, f90, f93]
          exact hJ _ _ _ ⟨by simp [f12], by simp [f14], by simp [f15], by simp [f16], by simp [f17], by simp [f18], by simp [f19], by simp [f20], by simp [f21], by simp [f22], by simp [-splice, f12, f14, f15, f16, f17, f18, f19, f20, f21, f22, f90, f93]⟩
        clear f12 f14 f15 f16 f17 f18 f19 f20 f21 f22 f90 f93
        rintro t H n ⟨f12, f14, f15, f16, f17, f18, f19, f20, f21, f22, f94⟩
        refine Stk.on ?_
        exact Stk.ln 0 (by decide) (hJ3 _ _ _ ⟨x17, h, f12, f14, f15, f16, f17, f18, f19, f20, f21, f22, f94⟩)
      · rw [hb3] at f90
        replace h := cF hb3 h
        refine Stk.run 4 (fun t H n => t 12 = .sc (.int .i64 x9.2) ∧ t 14 = .sc (.int .i64 x10.2) ∧ t 15 = .ssl (encs c97 x11.1) x11.1.length false ∧ t 16 = .sc (.int .i64 x11.2) ∧ t 17 = .ssl (encs c97 x12.1) x12.1.length false ∧ t 18 = .sc (.int .i64 x12.2) ∧ t 19 = .ssl (encs c97 x13.1) x13.1.length false ∧ t 20 = .sc (.int .i64 x13.2) ∧ t 21 = .ssl (encs c97 x14.1) x14.1.length false ∧ t 22 = .sc (.int .i64 x14.2) ∧ t 94 = .sc (.bool false)) (fun J hJ => ?_) ?_
        · simp [-splice, f11, f12, f13, f14, f15, f16, f17, f18, f19, f20, f21, f22, f90]
          exact hJ _ _ _ ⟨by simp [f12], by simp [f14], by simp [f15], by simp [f16], by simp [f17], by simp [f18], by simp [f19], by simp [f20], by simp [f21], by simp [f22], by simp [-splice, f11, f12, f13, f14, f15, f16, f17, f18, f19, f20, f21, f22, f90]⟩
        clear f11 f12 f13 f14 f15 f16 f17 f18 f19 f20 f21 f22 f90
        rintro t H n ⟨f12, f14, f15, f16, f17, f18, f19, f20, f21, f22, f94⟩
        refine Stk.on ?_
        exact Stk.ln 0 (by decide) (hJ3 _ _ _ ⟨false, h, f12, f14, f15, f16, f17, f18, f19, f20, f21, f22, f94⟩)
    clear h f11 f12 f13 f14 f15 f16 f17 f18 f19 f20 f21 f22 f90
    rintro t H n ⟨v16, h, f12, f14, f15, f16, f17, f18, f19, f20, f21, f22, f94⟩
    subst hK3
    refine Stk.run 1 (fun t H n => t 12 = .sc (.int .i64 x9.2) ∧ t 14 = .sc (.int .i64 x10.2) ∧ t 15 = .ssl (encs c97 x11.1) x11.1.length false ∧ t 16 = .sc (.int .i64 x11.2) ∧ t 17 = .ssl (encs c97 x12.1) x12.1.length false ∧ t 18 = .sc (.int .i64 x12.2) ∧ t 19 = .ssl (encs c97 x13.1) x13.1.length false ∧ t 20 = .sc (.int .i64 x13.2) ∧ t 21 = .ssl (encs c97 x14.1) x14.1.length false ∧ t 22 = .sc (.int .i64 x14.2) ∧ t 95 = .sc (.bool v16)) (fun J hJ => ?_) ?_
    · simp [-splice, f12, f14, f15, f16, f17, f18, f19, f20, f21, f22, f94]
      exact hJ _ _ _ ⟨by simp [f12], by simp [f14], by simp [f15], by simp [f16], by simp [f17], by simp [f18], by simp [f19], by simp [f20], by simp [f21], by simp [f22], by simp [-splice, f12, f14, f15, f16, f17, f18, f19, f20, f21, f22, f94]⟩
    clear f12 f14 f15 f16 f17 f18 f19 f20 f21 f22 f94
    rintro t H n ⟨f12, f14, f15, f16, f17, f18, f19, f20, f21, f22, f95⟩
    refine Stk.jo 4 (fun t H n => t 15 = .ssl (encs c97 x11.1) x11.1.length false ∧ t 16 = .sc (.int .i64 x11.2) ∧ t 17 = .ssl (encs c97 x12.1) x12.1.length false ∧ t 18 = .sc (.int .i64 x12.2) ∧ t 19 = .ssl (encs c97 x13.1) x13.1.length false ∧ t 20 = .sc (.int .i64 x13.2) ∧ t 21 = .ssl (encs c97 x14.1) x14.1.length false ∧ t 22 = .sc (.int .i64 x14.2) ∧ t 99 = .sc (.bool (v16 && (x9.2 == x10.2)))) (fun J4 hJ4 => ?_) ?_
    · rcases Bool.eq_false_or_eq_true v16 with hb4 | hb4
      · rw [hb4] at f95
        refine Stk.run 4 (fun t H n => t 15 = .ssl (encs c97 x11.1) x11.1.length false ∧ t 16 = .sc (.int .i64 x11.2) ∧ t 17 = .ssl (encs c97 x12.1) x12.1.length false ∧ t 18 = .sc (.int .i64 x12.2) ∧ t 19 = .ssl (encs c97 x13.1) x13.1.length false ∧ t 20 = .sc (.int .i64 x13.2) ∧ t 21 = .ssl (encs c97 x14.1) x14.1.length false ∧ t 22 = .sc (.int .i64 x14.2) ∧ t 99 = .sc (.bool (x9.2 == x10.2))) (fun J hJ => ?_) ?_
        · simp [-splice, f12, f14, f15, f16, f17, f18, f19, f20, f21, f22, f95]
          exact hJ _ _ _ ⟨by simp [f15], by simp [f16], by simp [f17], by simp [f18], by simp [f19], by simp [f20], by simp [f21], by simp [f22], by simp [-splice, f12, f14, f15, f16, f17, f18, f19, f20, f21, f22, f95]⟩
        clear f12 f14 f15 f16 f17 f18 f19 f20 f21 f22 f95
        rintro t H n ⟨f15, f16, f17, f18, f19, f20, f21, f22, f99⟩
        refine Stk.on ?_
        exact Stk.ln 0 (by decide) (hJ4 _ _ _ ⟨f15, f16, f17, f18, f19, f20, f21, f22, f99.trans (congrArg (fun q => AV.sc (.bool q)) (by rw [hb4]; rfl))⟩)
      · rw [hb4] at f95
        refine Stk.run 4 (fun t H n => t 15 = .ssl (encs c97 x11.1) x11.1.length false ∧ t 16 = .sc (.int .i64 x11.2) ∧ t 17 = .ssl (encs c97 x12.1) x12.1.length false ∧ t 18 = .sc (.int .i64 x12.2) ∧ t 19 = .ssl (encs c97 x13.1) x13.1.length false ∧ t 20 = .sc (.int .i64 x13.2) ∧ t 21 = .ssl (encs c97 x14.1) x14.1.length false ∧ t 22 = .sc (.int .i64 x14.2) ∧ t 99 = .sc (.bool false)) (fun J hJ => ?_) ?_
        · simp [-splice, f12, f14, f15, f16, f17, f18, f19, f20, f21, f22, f95]
          exact hJ _ _ _ ⟨by simp [f15], by simp [f16], by simp [f17], by simp [f18], by simp [f19], by simp [f20], by simp [f21], by simp [f22], by simp [-splice, f12, f14, f15, f16, f17, f18, f19, f20, f21, f22, f95]⟩
        clear f12 f14 f15 f16 f17 f18 f19 f20 f21 f22 f95
        rintro t H n ⟨f15, f16, f17, f18, f19, f20, f21, f22, f99⟩
        refine Stk.on ?_
        exact Stk.ln 0 (by decide) (hJ4 _ _ _ ⟨f15, f16, f17, f18, f19, f20, f21, f22, f99.trans (congrArg (fun q => AV.sc (.bool q)) (by rw [hb4]; rfl))⟩)
    clear f12 f14 f15 f16 f17 f18 f19 f20 f21 f22 f95
    rintro t H n ⟨f15, f16, f17, f18, f19, f20, f21, f22, f99⟩
    refine Stk.run 1 (fun t H n => t 15 = .ssl (encs c97 x11.1) x11.1.length false ∧ t 16 = .sc (.int .i64 x11.2) ∧ t 17 = .ssl (encs c97 x12.1) x12.1.length false ∧ t 18 = .sc (.int .i64 x12.2) ∧ t 19 = .ssl (encs c97 x13.1) x13.1.length false ∧ t 20 = .sc (.int .i64 x13.2) ∧ t 21 = .ssl (encs c97 x14.1) x14.1.length false ∧ t 22 = .sc (.int .i64 x14.2) ∧ t 100 = .sc (.bool (v16 && (x9.2 == x10.2)))) (fun J hJ => ?_) ?_
    · simp [-splice, f15, f16, f17, f18, f19, f20, f21, f22, f99]
      exact hJ _ _ _ ⟨by simp [f15], by simp [f16], by simp [f17], by simp [f18], by simp [f19], by simp [f20], by simp [f21], by simp [f22], by simp [-splice, f15, f16, f17, f18, f19, f20, f21, f22, f99]⟩
    clear f15 f16 f17 f18 f19 f20 f21 f22 f99
    rintro t H n ⟨f15, f16, f17, f18, f19, f20, f21, f22, f100⟩
    obtain ⟨K5, hK5, h⟩ := jnd h
    refine Stk.jo 4 (fun t H n => ∃ v18 : Bool, K5 v18 = some r ∧ t 16 = .sc (.int .i64 x11.2) ∧ t 18 = .sc (.int .i64 x12.2) ∧ t 19 = .ssl (encs c97 x13.1) x13.1.length false ∧ t 20 = .sc (.int .i64 x13.2) ∧ t 21 = .ssl (encs c97 x14.1) x14.1.length false ∧ t 22 = .sc (.int .i64 x14.2) ∧ t 104 = .sc (.bool v18)) (fun J5 hJ5 => ?_) ?_
    · rcases Bool.eq_false_or_eq_true (v16 && (x9.2 == x10.2)) with hb5 | hb5
      · rw [hb5] at f100
        replace h := cT hb5 h
        refine Stk.run 2 (fun t H n => t 16 = .sc (.int .i64 x11.2) ∧ t 18 = .sc (.int .i64 x12.2) ∧ t 19 = .ssl (encs c97 x13.1) x13.1.length false ∧ t 20 = .sc (.int .i64 x13.2) ∧ t 21 = .ssl (encs c97 x14.1) x14.1.length false ∧ t 22 = .sc (.int .i64 x14.2) ∧ t 100 = .sc (.bool true) ∧ t 101 = .ssl (encs c97 x11.1) x11.1.length false ∧ t 102 = .ssl (encs c97 x12.1) x12.1.length false) (fun J hJ => ?_) ?_
        · simp [-splice, f15, f16, f17, f18, f19, f20, f21, f22, f100]
          exact hJ _ _ _ ⟨by simp [f16], by simp [f18], by simp [f19], by simp [f20], by simp [f21], by simp [f22], by simp [f100], by simp [-splice, f15, f16, f17, f18, f19, f20, f21, f22, f100], by simp [-splice, f15, f16, f17, f18, f19, f20, f21, f22, f100]⟩
        clear f15 f16 f17 f18 f19 f20 f21 f22 f100
        rintro t H n ⟨f16, f18, f19, f20, f21, f22, f100, f101, f102⟩
        obtain ⟨x19, hx19, h⟩ := bnd h
        refine Stk.cv (g := 22) (args := [.ssl (encs c97 x11.1) x11.1.length false, .ssl (encs c97 x12.1) x12.1.length false]) (args' := [.ssl (encs c97 x11.1) x11.1.length false, .ssl (encs c97 x12.1) x12.1.length false]) (v := .sc (.bool x19)) [] (ok_R13_Same F _ _ _ hx19) (by simp [f16, f18, f19, f20, f21, f22, f100, f101, f102]) rfl rfl (by simp [f16, f18, f19, f20, f21, f22, f100, f101, f102]) (.cons (.free (freeL_encs fr97 _)) (.cons (.free (freeL_encs fr97 _)) (.nil))) (.inl ⟨rfl, rfl⟩) (fun t' ht' => ?_)
        refine Stk.gen (fun t H n => t 16 = .sc (.int .i64 x11.2) ∧ t 18 = .sc (.int .i64 x12.2) ∧ t 19 = .ssl (encs c97 x13.1) x13.1.length false ∧ t 20 = .sc (.int .i64 x13.2) ∧ t 21 = .ssl (encs c97 x14.1) x14.1.length false ∧ t 22 = .sc (.int .i64 x14.2) ∧ t 100 = .sc (.bool true) ∧ t 103 = .sc (.bool x19)) ⟨by simp [ht', f16], by simp [ht', f18], by simp [ht', f19], by simp [ht', f20], by simp [ht', f21], by simp [ht', f22], by simp [ht', f100], by simp [ht']⟩ ?_
        clear f16 f18 f19 f20 f21 f22 f100 f101 f102 ht' t'
        rintro t H n ⟨f16, f18, f19, f20, f21, f22, f100, f103⟩
        refine Stk.run 1 (fun t H n => t 16 = .sc (.int .i64 x11.2) ∧ t 18 = .sc (.int .i64 x12.2) ∧ t 19 = .ssl (encs c97 x13.1) x13.1.length false ∧ t 20 = .sc (.int .i64 x13.2) ∧ t 21 = .ssl (encs c97 x14.1) x14.1.length false ∧ t 22 = .sc (.int .i64 x14.2) ∧ t 104 = .sc (.bool x19)) (fun J hJ => ?_) ?_
        · simp [-splice, f16, f18, f19, f20, f21, f22, f100, f103]
          exact hJ _ _ _ ⟨by simp [f16], by simp [f18], by simp [f19], by simp [f20], by simp [f21], by simp [f22], by simp [-splice, f16, f18, f19, f20, f21, f22, f100, f103]⟩
        clear f16 f18 f19 f20 f21 f22 f100 f103
        rintro t H n ⟨f16, f18, f19, f20, f21, f22, f104⟩
        refine Stk.on ?_
        exact Stk.ln 0 (by decide) (hJ5 _ _ _ ⟨x19, h, f16, f18, f19, f20, f21, f22, f104⟩)
      · rw [hb5] at f100
        replace h := cF hb5 h
        refine Stk.run 4 (fun t H n => t 16 = .sc (.int .i64 x11.2) ∧ t 18 = .sc (.int .i64 x12.2) ∧ t 19 = .ssl (encs c97 x13.1) x13.1.length false ∧ t 20 = .sc (.int .i64 x13.2) ∧ t 21 = .ssl (encs c97 x14.1) x14.1.length false ∧ t 22 = .sc (.int .i64 x14.2) ∧ t 104 = .sc (.bool false)) (fun J hJ => ?_) ?_
        · simp [-splice, f15, f16, f17, f18, f19, f20, f21, f22, f100]
          exact hJ _ _ _ ⟨by simp [f16], by simp [f18], by simp [f19], by simp [f20], by simp [f21], by simp [f22], by simp [-splice, f15, f16, f17, f18, f19, f20, f21, f22, f100]⟩
        clear f15 f16 f17 f18 f19 f20 f21 f22 f100
        rintro t H n ⟨f16, f18, f19, f20, f21, f22, f104⟩
        refine Stk.on ?_
        exact Stk.ln 0 (by decide) (hJ5 _ _ _ ⟨false, h, f16, f18, f19, f20, f21, f22, f104⟩)
    clear h f15 f16 f17 f18 f19 f20 f21 f22 f100
    rintro t H n ⟨v18, h, f16, f18, f19, f20, f21, f22, f104⟩
    subst hK5
    refine Stk.run 1 (fun t H n => t 16 = .sc (.int .i64 x11.2) ∧ t 18 = .sc (.int .i64 x12.2) ∧ t 19 = .ssl (encs c97 x13.1) x13.1.length false ∧ t 20 = .sc (.int .i64 x13.2) ∧ t 21 = .ssl (encs c97 x14.1) x14.1.length false ∧ t 22 = .sc (.int .i64 x14.2) ∧ t 105 = .sc (.bool v18)) (fun J hJ => ?_) ?_
    · simp [-splice, f16, f18, f19, f20, f21, f22, f104]
      exact hJ _ _ _ ⟨by simp [f16], by simp [f18], by simp [f19], by simp [f20], by simp [f21], by simp [f22], by simp [-splice, f16, f18, f19, f20, f21, f22, f104]⟩
    clear f16 f18 f19 f20 f21 f22 f104
    rintro t H n ⟨f16, f18, f19, f20, f21, f22, f105⟩
    refine Stk.jo 4 (fun t H n => t 19 = .ssl (encs c97 x13.1) x13.1.length false ∧ t 20 = .sc (.int .i64 x13.2) ∧ t 21 = .ssl (encs c97 x14.1) x14.1.length false ∧ t 22 = .sc (.int .i64 x14.2) ∧ t 109 = .sc (.bool (v18 && (x11.2 == x12.2)))) (fun J6 hJ6 => ?_) ?_
    · rcases Bool.eq_false_or_eq_true v18 with hb6 | hb6
      · rw [hb6] at f105
        refine Stk.run 4 (fun t H n => t 19 = .ssl (encs c97 x13.1) x13.1.length false ∧ t 20 = .sc (.int .i64 x13.2) ∧ t 21 = .ssl (encs c97 x14.1) x14.1.length false ∧ t 22 = .sc (.int .i64 x14.2) ∧ t 109 = .sc (.bool (x11.2 == x12.2))) (fun J hJ => ?_) ?_
        · simp [-splice, f16, f18, f19, f20, f21, f22, f105]
          exact hJ _ _ _ ⟨by simp [f19], by simp [f20], by simp [f21], by simp [f22], by simp [-splice, f16, f18, f19, f20, f21, f22, f105]⟩
        clear f16 f18 f19 f20 f21 f22 f105
        rintro t H n ⟨f19, f20, f21, f22, f109⟩
        refine Stk.on ?_
        exact Stk.ln 0 (by decide) (hJ6 _ _ _ ⟨f19, f20, f21, f22, f109.trans (congrArg (fun q => AV.sc (.bool q)) (by rw [hb6]; rfl))⟩)
      · rw [hb6] at f105
        refine Stk.run 4 (fun t H n => t 19 = .ssl (encs c97 x13.1) x13.1.length false ∧ t 20 = .sc (.int .i64 x13.2) ∧ t 21 = .ssl (encs c97 x14.1) x14.1.length false ∧ t 22 = .sc (.int .i64 x14.2) ∧ t 109 = .sc (.bool false)) (fun J hJ => ?_) ?_
        · simp [-splice, f16, f18, f19, f20, f21, f22, f105]
          exact hJ _ _ _ ⟨by simp [f19], by simp [f20], by simp [f21], by simp [f22], by simp [-splice, f16, f18, f19, f20, f21, f22, f105]⟩
        clear f16 f18 f19 f20 f21 f22 f105
        rintro t H n ⟨f19, f20, f21, f22, f109⟩
        refine Stk.on ?_
        exact Stk.ln 0 (by decide) (hJ6 _ _ _ ⟨f19, f20, f21, f22, f109.trans (congrArg (fun q => AV.sc (.bool q)) (by rw [hb6]; rfl))⟩)
    clear f16 f18 f19 f20 f21 f22 f105
    rintro t H n ⟨f19, f20, f21, f22, f109⟩
    refine Stk.run 1 (fun t H n => t 19 = .ssl (encs c97 x13.1) x13.1.length false ∧ t 20 = .sc (.int .i64 x13.2) ∧ t 21 = .ssl (encs c97 x14.1) x14.1.length false ∧ t 22 = .sc (.int .i64 x14.2) ∧ t 110 = .sc (.bool (v18 && (x11.2 == x12.2)))) (fun J hJ => ?_) ?_
    · simp [-splice, f19, f20, f21, f22, f109]
      exact hJ _ _ _ ⟨by simp [f19], by simp [f20], by simp [f21], by simp [f22], by simp [-splice, f19, f20, f21, f22, f109]⟩
    clear f19 f20 f21 f22 f109
    rintro t H n ⟨f19, f20, f21, f22, f110⟩
    obtain ⟨K7, hK7, h⟩ := jnd h
    refine Stk.jo 4 (fun t H n => ∃ v20 : Bool, K7 v20 = some r ∧ t 20 = .sc (.int .i64 x13.2) ∧ t 22 = .sc (.int .i64 x14.2) ∧ t 114 = .sc (.bool v20)) (fun J7 hJ7 => ?_) ?_
    · rcases Bool.eq_false_or_eq_true (v18 && (x11.2 == x12.2)) with hb7 | hb7
      · rw [hb7] at f110
        replace h := cT hb7 h
        refine Stk.run 2 (fun t H n => t 20 = .sc (.int .i64 x13.2) ∧ t 22 = .sc (.int .i64 x14.2) ∧ t 110 = .sc (.bool true) ∧ t 111 = .ssl (encs c97 x13.1) x13.1.length false ∧ t 112 = .ssl (encs c97 x14.1) x14.1.length false) (fun J hJ => ?_) ?_
        · simp [-splice, f19, f20, f21, f22, f110]
          exact hJ _ _ _ ⟨by simp [f20], by simp [f22], by simp [f110], by simp [-splice, f19, f20, f21, f22, f110], by simp [-splice, f19, f20, f21, f22, f110]⟩
        clear f19 f20 f21 f22 f110
        rintro t H n ⟨f20, f22, f110, f111, f112⟩
        obtain ⟨x21, hx21, h⟩ := bnd h
        refine Stk.cv (g := 22) (args := [.ssl (encs c97 x13.1) x13.1.length false, .ssl (encs c97 x14.1) x14.1.length false]) (args' := [.ssl (encs c97 x13.1) x13.1.length false, .ssl (encs c97 x14.1) x14.1.length false]) (v := .sc (.bool x21)) [] (ok_R13_Same F _ _ _ hx21) (by simp [f20, f22, f110, f111, f112]) rfl rfl (by simp [f20, f22, f110, f111, f112]) (.cons (.free (freeL_encs fr97 _)) (.cons (.free (freeL_encs fr97 _)) (.nil))) (.inl ⟨rfl, rfl⟩) (fun t' ht' => ?_)
        refine Stk.gen (fun t H n => t 20 = .sc (.int .i64 x13.2) ∧ t 22 = .sc (.int .i64 x14.2) ∧ t 110 = .sc (.bool true) ∧ t 113 = .sc (.bool x21)) ⟨by simp [ht', f20], by simp [ht', f22], by simp [ht', f110], by simp [ht']⟩ ?_
        clear f20 f22 f110 f111 f112 ht' t'
        rintro t H n ⟨f20, f22, f110, f113⟩
        refine Stk.run 1 (fun t H n => t 20 = .sc (.int .i64 x13.2) ∧ t 22 = .sc (.int .i64 x14.2) ∧ t 114 = .sc (.bool x21)) (fun J hJ => ?_) ?_
        · simp [-splice, f20, f22, f110, f113]
          exact hJ _ _ _ ⟨by simp [f20], by simp [f22], by simp [-splice, f20, f22, f110, f113]⟩
        clear f20 f22 f110 f113
        rintro t H n ⟨f20, f22, f114⟩
        refine Stk.on ?_
        exact Stk.ln 0 (by decide) (hJ7 _ _ _ ⟨x21, h, f20, f22, f114⟩)
      · rw [hb7] at f110
        replace h := cF hb7 h
        refine Stk.run 4 (fun t H n => t 20 = .sc (.int .i64 x13.2) ∧ t 22 = .sc (.int .i64 x14.2) ∧ t 114 = .sc (.bool false)) (fun J hJ => ?_) ?_
        · simp [-splice, f19, f20, f21, f22, f110]
          exact hJ _ _ _ ⟨by simp [f20], by simp [f22], by simp [-splice, f19, f20, f21, f22, f110]⟩
        clear f19 f20 f21 f22 f110
        rintro t H n ⟨f20, f22, f114⟩
        refine Stk.on ?_
        exact Stk.ln 0 (by decide) (hJ7 _ _ _ ⟨false, h, f20, f22, f114⟩)
    clear h f19 f20 f21 f22 f110
    rintro t H n ⟨v20, h, f20, f22, f114⟩
    subst hK7
    refine Stk.run 1 (fun t H n => t 20 = .sc (.int .i64 x13.2) ∧ t 22 = .sc (.int .i64 x14.2) ∧ t 115 = .sc (.bool v20)) (fun J hJ => ?_) ?_
    · simp [-splice, f20, f22, f114]
      exact hJ _ _ _ ⟨by simp [f20], by simp [f22], by simp [-splice, f20, f22, f114]⟩
    clear f20 f22 f114
    rintro t H n ⟨f20, f22, f115⟩
    refine Stk.jo 4 (fun t H n => t 119 = .sc (.bool (v20 && (x13.2 == x14.2)))) (fun J8 hJ8 => ?_) ?_
    · rcases Bool.eq_false_or_eq_true v20 with hb8 | hb8
      · rw [hb8] at f115
        refine Stk.run 4 (fun t H n => t 119 = .sc (.bool (x13.2 == x14.2))) (fun J hJ => ?_) ?_
        · simp [-splice, f20, f22, f115]
          exact hJ _ _ _ (by simp [-splice, f20, f22, f115])
        clear f20 f22 f115
        rintro t H n f119
        refine Stk.on ?_
        exact Stk.ln 0 (by decide) (hJ8 _ _ _ (f119.trans (congrArg (fun q => AV.sc (.bool q)) (by rw [hb8]; rfl))))
      · rw [hb8] at f115
        refine Stk.run 4 (fun t H n => t 119 = .sc (.bool false)) (fun J hJ => ?_) ?_
        · simp [-splice, f20, f22, f115]
          exact hJ _ _ _ (by simp [-splice, f20, f22, f115])
        clear f20 f22 f115
        rintro t H n f119
        refine Stk.on ?_
        exact Stk.ln 0 (by decide) (hJ8 _ _ _ (f119.trans (congrArg (fun q => AV.sc (.bool q)) (by rw [hb8]; rfl))))
    clear f20 f22 f115
    rintro t H n f119
    refine Stk.run 1 (fun t H n => t 120 = .sc (.bool (v20 && (x13.2 == x14.2)))) (fun J hJ => ?_) ?_
    · simp [-splice, f119]
      exact hJ _ _ _ (by simp [-splice, f119])
    clear f119
    rintro t H n f120
    obtain ⟨K9, hK9, h⟩ := jnd h
    refine Stk.jo 2 (fun t H n => ∃ v22 : Bool, K9 v22 = some r ∧ t 122 = .sc (.bool v22)) (fun J9 hJ9 => ?_) ?_
    · rcases Bool.eq_false_or_eq_true (v20 && (x13.2 == x14.2)) with hb9 | hb9
      · rw [hb9] at f120
        replace h := cT hb9 h
        obtain ⟨x23, hx23, h⟩ := bnd h
        refine Stk.cv (g := 19) (args := []) (args' := []) (v := .sc (.bool x23)) [] (ok_L13_awake F  _ hx23) (by simp [f120]) rfl rfl (by simp [f120]) (.nil) (.inl ⟨rfl, rfl⟩) (fun t' ht' => ?_)
        refine Stk.gen (fun t H n => t 120 = .sc (.bool true) ∧ t 121 = .sc (.bool x23)) ⟨by simp [ht', f120], by simp [ht']⟩ ?_
        clear f120 ht' t'
        rintro t H n ⟨f120, f121⟩
        refine Stk.run 1 (fun t H n => t 122 = .sc (.bool x23)) (fun J hJ => ?_) ?_
        · simp [-splice, f120, f121]
          exact hJ _ _ _ (by simp [-splice, f120, f121])
        clear f120 f121
        rintro t H n f122
        refine Stk.on ?_
        exact Stk.ln 0 (by decide) (hJ9 _ _ _ ⟨x23, h, f122⟩)
      · rw [hb9] at f120
        replace h := cF hb9 h
        refine Stk.run 2 (fun t H n => t 122 = .sc (.bool false)) (fun J hJ => ?_) ?_
        · simp [-splice, f120]
          exact hJ _ _ _ (by simp [-splice, f120])
        clear f120
        rintro t H n f122
        refine Stk.on ?_
        exact Stk.ln 0 (by decide) (hJ9 _ _ _ ⟨false, h, f122⟩)
    clear h f120
    rintro t H n ⟨v22, h, f122⟩
    subst hK9
    refine Stk.run 1 (fun t H n => t 6 = .sc (.bool v22)) (fun J hJ => ?_) ?_
    · simp [-splice, f122]
      exact hJ _ _ _ (by simp [-splice, f122])
    clear f122
    rintro t H n f6
    refine Stk.on ?_
    refine Stk.rt ?_
    have hq := Option.some.inj h; subst hq
    exact (hr _ _ _ (.sc (.bool v22)) ([]) (by simp [f6]) (.inr (.inr (.free (rfl))))).1
end Go.Proofs.Ytfbkgjmpadknfaa.M
