/-
  The functions come to them.
-/
import Derived.Test.YtfbkgjmpadknfaaGM
import Derived.Test.YtfbkgjmpadknfaaGW2
import Derived.Test.YtfbkgjmpadknfaaGW4
import Derived.Test.YtfbkgjmpadknfaaGW5
import Derived.Test.YtfbkgjmpadknfaaGW6
import Derived.Test.YtfbkgjmpadknfaaGW8
namespace Go.Proofs.Ytfbkgjmpadknfaa.M
open Go.Proofs.YtfbkgjmpadknfaaW.Ah Go.Proofs.Ytfbkgjmpadknfaa
set_option linter.unusedVariables false
set_option linter.unusedSimpArgs false
set_option maxRecDepth 8000
attribute [local simp] T.t2 T.t3 T.t4 T.t5 T.t23 T.t37 T.t39 T.t45 T.t46 List.range List.range.loop
attribute [-simp] appendAV fillAV
theorem ok_L13_PolyRises (F : Nat) (a0 : (List api_Term)) (a1 : (List api_Term)) (a2 : (List Int)) (a3 : Int) (a4 : Int) (r : Bool) (h : L13_PolyRises F a0 a1 a2 a3 a4 = some r) : RunF Try.prog T.T 5 [.ssl (encs c97 a0) a0.length false, .ssl (encs c97 a1) a1.length false, .ssl (encs c2 a2) a2.length false, .sc (.int .u8 a3), .sc (.int .u32 a4)] (.sc (.bool r)) := by
  rw [L13_PolyRises] at h
  refine RunF.z Try.func5 rfl rfl rfl rfl rfl (fun C hr => ?_)
  refine Stk.gen (fun t H n => t 0 = .ssl (encs c97 a0) a0.length false ∧ t 1 = .ssl (encs c97 a1) a1.length false ∧ t 2 = .ssl (encs c2 a2) a2.length false ∧ t 3 = .sc (.int .u8 a3) ∧ t 4 = .sc (.int .u32 a4)) ⟨by simp, by simp, by simp, by simp, by simp⟩ ?_
  rintro t H n ⟨f0, f1, f2, f3, f4⟩
  refine Stk.sq ?_
  refine Stk.rg ?_
  refine Stk.run 1 (fun t H n => t 0 = .ssl (encs c97 a0) a0.length false ∧ t 1 = .ssl (encs c97 a1) a1.length false ∧ t 2 = .ssl (encs c2 a2) a2.length false ∧ t 3 = .sc (.int .u8 a3) ∧ t 4 = .sc (.int .u32 a4)) (fun J hJ => ?_) ?_
  · simp [-splice, f0, f1, f2, f3, f4]
    exact hJ _ _ _ ⟨by simp [f0], by simp [f1], by simp [f2], by simp [f3], by simp [f4]⟩
  clear f0 f1 f2 f3 f4
  rintro t H n ⟨f0, f1, f2, f3, f4⟩
  refine Stk.on ?_
  refine Stk.sq ?_
  refine Stk.sq ?_
  refine Stk.rg ?_
  refine Stk.run 2 (fun t H n => t 0 = .ssl (encs c97 a0) a0.length false ∧ t 1 = .ssl (encs c97 a1) a1.length false ∧ t 2 = .ssl (encs c2 a2) a2.length false ∧ t 3 = .sc (.int .u8 a3) ∧ t 4 = .sc (.int .u32 a4) ∧ t 28 = .ssl (encs c97 a0) a0.length false ∧ t 29 = .ssl (encs c97 a1) a1.length false) (fun J hJ => ?_) ?_
  · simp [-splice, f0, f1, f2, f3, f4]
    exact hJ _ _ _ ⟨by simp [f0], by simp [f1], by simp [f2], by simp [f3], by simp [f4], by simp [-splice, f0, f1, f2, f3, f4], by simp [-splice, f0, f1, f2, f3, f4]⟩
  clear f0 f1 f2 f3 f4
  rintro t H n ⟨f0, f1, f2, f3, f4, f28, f29⟩
  refine Stk.om (mop_buildN (c := c37) (z := 1) T.t39 rfl T.t37 rfl (by decide) rfl (by decide) [a0, a1] rfl (.cons f28 rfl rfl rfl rfl (by simp [length_encs]) (splice_next (c := c37) [] _ a0 rfl (by simp)) (.cons f29 rfl rfl rfl rfl (by simp [length_encs]) (splice_next (c := c37) [a0] _ a1 rfl (by simp)) (.nil)))) (by simp [f0, f1, f2, f3, f4, f28, f29]) rfl (fun t' ht' => ?_)
  refine Stk.gen (fun t H n => ∃ b1, t 0 = .ssl (encs c97 a0) a0.length false ∧ t 1 = .ssl (encs c97 a1) a1.length false ∧ t 2 = .ssl (encs c2 a2) a2.length false ∧ t 3 = .sc (.int .u8 a3) ∧ t 4 = .sc (.int .u32 a4) ∧ t 30 = .osl b1 0 ([a0, a1] : List (List api_Term)).length (some ([a0, a1] : List (List api_Term)).length) ∧ H b1 = some (.cells (encs c37 ([a0, a1] : List (List api_Term))) 37) ∧ b1 < n) ⟨n, by simp [ht', f0], by simp [ht', f1], by simp [ht', f2], by simp [ht', f3], by simp [ht', f4], by simp [ht'], upd_same _ _ _, Nat.lt_succ_self _⟩ ?_
  clear f0 f1 f2 f3 f4 f28 f29 ht' t'
  rintro t H n ⟨b1, f0, f1, f2, f3, f4, f30, b_b1, l_b1⟩
  obtain ⟨x2, hx2, h⟩ := bnd h
  refine Stk.cv (g := 18) (args := [.osl b1 0 ([a0, a1] : List (List api_Term)).length (some ([a0, a1] : List (List api_Term)).length)]) (args' := [.ssl (encs c37 ([a0, a1] : List (List api_Term))) ([a0, a1] : List (List api_Term)).length false]) (v := .sc (.bool x2)) [b1] (ok_L13_few F _ _ hx2) (by simp [f0, f1, f2, f3, f4, f30]) rfl rfl (by simp [f0, f1, f2, f3, f4, f30]) (.cons (view_row fr37 b_b1 (by simp) _) (.nil)) (.inr rfl) (fun t' ht' => ?_)
  refine Stk.gen (fun t H n => t 0 = .ssl (encs c97 a0) a0.length false ∧ t 1 = .ssl (encs c97 a1) a1.length false ∧ t 2 = .ssl (encs c2 a2) a2.length false ∧ t 3 = .sc (.int .u8 a3) ∧ t 4 = .sc (.int .u32 a4) ∧ t 31 = .sc (.bool x2)) ⟨by simp [ht', f0], by simp [ht', f1], by simp [ht', f2], by simp [ht', f3], by simp [ht', f4], by simp [ht']⟩ ?_
  clear f0 f1 f2 f3 f4 f30 b_b1 l_b1 ht' t'
  rintro t H n ⟨f0, f1, f2, f3, f4, f31⟩
  refine Stk.run 2 (fun t H n => t 0 = .ssl (encs c97 a0) a0.length false ∧ t 1 = .ssl (encs c97 a1) a1.length false ∧ t 2 = .ssl (encs c2 a2) a2.length false ∧ t 3 = .sc (.int .u8 a3) ∧ t 4 = .sc (.int .u32 a4) ∧ t 33 = .sc (.bool (!x2))) (fun J hJ => ?_) ?_
  · simp [-splice, f0, f1, f2, f3, f4, f31]
    exact hJ _ _ _ ⟨by simp [f0], by simp [f1], by simp [f2], by simp [f3], by simp [f4], by simp [-splice, f0, f1, f2, f3, f4, f31]⟩
  clear f0 f1 f2 f3 f4 f31
  rintro t H n ⟨f0, f1, f2, f3, f4, f33⟩
  refine Stk.jo 4 (fun t H n => t 0 = .ssl (encs c97 a0) a0.length false ∧ t 1 = .ssl (encs c97 a1) a1.length false ∧ t 2 = .ssl (encs c2 a2) a2.length false ∧ t 3 = .sc (.int .u8 a3) ∧ t 4 = .sc (.int .u32 a4) ∧ t 37 = .sc (.bool ((!x2) || (decide (20 < (a2.length : Int)))))) (fun J1 hJ1 => ?_) ?_
  · rcases Bool.eq_false_or_eq_true (!x2) with hb1 | hb1
    · rw [hb1] at f33
      refine Stk.run 4 (fun t H n => t 0 = .ssl (encs c97 a0) a0.length false ∧ t 1 = .ssl (encs c97 a1) a1.length false ∧ t 2 = .ssl (encs c2 a2) a2.length false ∧ t 3 = .sc (.int .u8 a3) ∧ t 4 = .sc (.int .u32 a4) ∧ t 37 = .sc (.bool true)) (fun J hJ => ?_) ?_
      · simp [-splice, f0, f1, f2, f3, f4, f33]
        exact hJ _ _ _ ⟨by simp [f0], by simp [f1], by simp [f2], by simp [f3], by simp [f4], by simp [-splice, f0, f1, f2, f3, f4, f33]⟩
      clear f0 f1 f2 f3 f4 f33
      rintro t H n ⟨f0, f1, f2, f3, f4, f37⟩
      refine Stk.on ?_
      exact Stk.ln 0 (by decide) (hJ1 _ _ _ ⟨f0, f1, f2, f3, f4, f37.trans (congrArg (fun q => AV.sc (.bool q)) (by rw [hb1]; rfl))⟩)
    · rw [hb1] at f33
      refine Stk.run 4 (fun t H n => t 0 = .ssl (encs c97 a0) a0.length false ∧ t 1 = .ssl (encs c97 a1) a1.length false ∧ t 2 = .ssl (encs c2 a2) a2.length false ∧ t 3 = .sc (.int .u8 a3) ∧ t 4 = .sc (.int .u32 a4) ∧ t 37 = .sc (.bool (decide (20 < (a2.length : Int))))) (fun J hJ => ?_) ?_
      · simp [-splice, f0, f1, f2, f3, f4, f33]
        exact hJ _ _ _ ⟨by simp [f0], by simp [f1], by simp [f2], by simp [f3], by simp [f4], by simp [-splice, f0, f1, f2, f3, f4, f33]⟩
      clear f0 f1 f2 f3 f4 f33
      rintro t H n ⟨f0, f1, f2, f3, f4, f37⟩
      refine Stk.on ?_
      exact Stk.ln 0 (by decide) (hJ1 _ _ _ ⟨f0, f1, f2, f3, f4, f37.trans (congrArg (fun q => AV.sc (.bool q)) (by rw [hb1]; rfl))⟩)
  clear f0 f1 f2 f3 f4 f33
  rintro t H n ⟨f0, f1, f2, f3, f4, f37⟩
  refine Stk.on ?_
  refine Stk.cond ((!x2) || (decide (20 < (a2.length : Int)))) (by exact f37) (fun hb3 => ?_) (fun hb3 => ?_)
  · have h := cT hb3 h
    refine Stk.sq ?_
    refine Stk.rg ?_
    obtain ⟨x4, hx4, h⟩ := bnd h
    refine Stk.cv (g := 19) (args := []) (args' := []) (v := .sc (.bool x4)) [] (ok_L13_awake F  _ hx4) (by simp [f0, f1, f2, f3, f4, f37]) rfl rfl (by simp [f0, f1, f2, f3, f4, f37]) (.nil) (.inl ⟨rfl, rfl⟩) (fun t' ht' => ?_)
    refine Stk.gen (fun t H n => t 38 = .sc (.bool x4)) (by simp [ht']) ?_
    clear f0 f1 f2 f3 f4 f37 ht' t'
    rintro t H n f38
    refine Stk.run 1 (fun t H n => t 10 = .sc (.bool x4)) (fun J hJ => ?_) ?_
    · simp [-splice, f38]
      exact hJ _ _ _ (by simp [-splice, f38])
    clear f38
    rintro t H n f10
    refine Stk.on ?_
    refine Stk.rt ?_
    have hq := Option.some.inj h; subst hq
    exact (hr _ _ _ (.sc (.bool x4)) ([]) (by simp [f10]) (.inr (.inr (.free (rfl))))).1
  · have h := cF hb3 h
    refine Stk.sk ?_
    refine Stk.sq ?_
    refine Stk.rg ?_
    refine Stk.run 2 (fun t H n => t 0 = .ssl (encs c97 a0) a0.length false ∧ t 1 = .ssl (encs c97 a1) a1.length false ∧ t 2 = .ssl (encs c2 a2) a2.length false ∧ t 3 = .sc (.int .u8 a3) ∧ t 4 = .sc (.int .u32 a4) ∧ t 40 = .ssl (encs c97 a0) a0.length false ∧ t 41 = .ssl (encs c97 a1) a1.length false) (fun J hJ => ?_) ?_
    · simp [-splice, f0, f1, f2, f3, f4, f37]
      exact hJ _ _ _ ⟨by simp [f0], by simp [f1], by simp [f2], by simp [f3], by simp [f4], by simp [-splice, f0, f1, f2, f3, f4, f37], by simp [-splice, f0, f1, f2, f3, f4, f37]⟩
    clear f0 f1 f2 f3 f4 f37
    rintro t H n ⟨f0, f1, f2, f3, f4, f40, f41⟩
    obtain ⟨x5, hx5, h⟩ := bnd h
    refine Stk.cv (g := 24) (args := [.ssl (encs c97 a0) a0.length false, .ssl (encs c97 a1) a1.length false]) (args' := [.ssl (encs c97 a0) a0.length false, .ssl (encs c97 a1) a1.length false]) (v := .tup [.ssl (encs c97 x5.1) x5.1.length false, .sc (.int .i64 x5.2)]) [] (ok_poly_Max F _ _ _ hx5) (by simp [f0, f1, f2, f3, f4, f40, f41]) rfl rfl (by simp [f0, f1, f2, f3, f4, f40, f41]) (.cons (.free (freeL_encs fr97 _)) (.cons (.free (freeL_encs fr97 _)) (.nil))) (.inl ⟨rfl, by simp [free, freeL, freeL_encs fr97]⟩) (fun t' ht' => ?_)
    refine Stk.gen (fun t H n => t 0 = .ssl (encs c97 a0) a0.length false ∧ t 1 = .ssl (encs c97 a1) a1.length false ∧ t 2 = .ssl (encs c2 a2) a2.length false ∧ t 3 = .sc (.int .u8 a3) ∧ t 4 = .sc (.int .u32 a4) ∧ t 42 = .tup [.ssl (encs c97 x5.1) x5.1.length false, .sc (.int .i64 x5.2)]) ⟨by simp [ht', f0], by simp [ht', f1], by simp [ht', f2], by simp [ht', f3], by simp [ht', f4], by simp [ht']⟩ ?_
    clear f0 f1 f2 f3 f4 f40 f41 ht' t'
    rintro t H n ⟨f0, f1, f2, f3, f4, f42⟩
    refine Stk.run 5 (fun t H n => t 0 = .ssl (encs c97 a0) a0.length false ∧ t 1 = .ssl (encs c97 a1) a1.length false ∧ t 2 = .ssl (encs c2 a2) a2.length false ∧ t 3 = .sc (.int .u8 a3) ∧ t 4 = .sc (.int .u32 a4) ∧ t 11 = .ssl (encs c97 x5.1) x5.1.length false ∧ t 12 = .sc (.int .i64 x5.2)) (fun J hJ => ?_) ?_
    · simp [-splice, f0, f1, f2, f3, f4, f42]
      exact hJ _ _ _ ⟨by simp [f0], by simp [f1], by simp [f2], by simp [f3], by simp [f4], by simp [-splice, f0, f1, f2, f3, f4, f42], by simp [-splice, f0, f1, f2, f3, f4, f42]⟩
    clear f0 f1 f2 f3 f4 f42
    rintro t H n ⟨f0, f1, f2, f3, f4, f11, f12⟩
    refine Stk.on ?_
    refine Stk.sq ?_
    refine Stk.rg ?_
    refine Stk.run 2 (fun t H n => t 0 = .ssl (encs c97 a0) a0.length false ∧ t 1 = .ssl (encs c97 a1) a1.length false ∧ t 2 = .ssl (encs c2 a2) a2.length false ∧ t 3 = .sc (.int .u8 a3) ∧ t 4 = .sc (.int .u32 a4) ∧ t 11 = .ssl (encs c97 x5.1) x5.1.length false ∧ t 12 = .sc (.int .i64 x5.2) ∧ t 46 = .ssl (encs c97 a1) a1.length false ∧ t 47 = .ssl (encs c97 a0) a0.length false) (fun J hJ => ?_) ?_
    · simp [-splice, f0, f1, f2, f3, f4, f11, f12]
      exact hJ _ _ _ ⟨by simp [f0], by simp [f1], by simp [f2], by simp [f3], by simp [f4], by simp [f11], by simp [f12], by simp [-splice, f0, f1, f2, f3, f4, f11, f12], by simp [-splice, f0, f1, f2, f3, f4, f11, f12]⟩
    clear f0 f1 f2 f3 f4 f11 f12
    rintro t H n ⟨f0, f1, f2, f3, f4, f11, f12, f46, f47⟩
    obtain ⟨x6, hx6, h⟩ := bnd h
    refine Stk.cv (g := 24) (args := [.ssl (encs c97 a1) a1.length false, .ssl (encs c97 a0) a0.length false]) (args' := [.ssl (encs c97 a1) a1.length false, .ssl (encs c97 a0) a0.length false]) (v := .tup [.ssl (encs c97 x6.1) x6.1.length false, .sc (.int .i64 x6.2)]) [] (ok_poly_Max F _ _ _ hx6) (by simp [f0, f1, f2, f3, f4, f11, f12, f46, f47]) rfl rfl (by simp [f0, f1, f2, f3, f4, f11, f12, f46, f47]) (.cons (.free (freeL_encs fr97 _)) (.cons (.free (freeL_encs fr97 _)) (.nil))) (.inl ⟨rfl, by simp [free, freeL, freeL_encs fr97]⟩) (fun t' ht' => ?_)
    refine Stk.gen (fun t H n => t 0 = .ssl (encs c97 a0) a0.length false ∧ t 1 = .ssl (encs c97 a1) a1.length false ∧ t 2 = .ssl (encs c2 a2) a2.length false ∧ t 3 = .sc (.int .u8 a3) ∧ t 4 = .sc (.int .u32 a4) ∧ t 11 = .ssl (encs c97 x5.1) x5.1.length false ∧ t 12 = .sc (.int .i64 x5.2) ∧ t 48 = .tup [.ssl (encs c97 x6.1) x6.1.length false, .sc (.int .i64 x6.2)]) ⟨by simp [ht', f0], by simp [ht', f1], by simp [ht', f2], by simp [ht', f3], by simp [ht', f4], by simp [ht', f11], by simp [ht', f12], by simp [ht']⟩ ?_
    clear f0 f1 f2 f3 f4 f11 f12 f46 f47 ht' t'
    rintro t H n ⟨f0, f1, f2, f3, f4, f11, f12, f48⟩
    refine Stk.run 5 (fun t H n => t 0 = .ssl (encs c97 a0) a0.length false ∧ t 1 = .ssl (encs c97 a1) a1.length false ∧ t 2 = .ssl (encs c2 a2) a2.length false ∧ t 3 = .sc (.int .u8 a3) ∧ t 4 = .sc (.int .u32 a4) ∧ t 11 = .ssl (encs c97 x5.1) x5.1.length false ∧ t 12 = .sc (.int .i64 x5.2) ∧ t 13 = .ssl (encs c97 x6.1) x6.1.length false ∧ t 14 = .sc (.int .i64 x6.2)) (fun J hJ => ?_) ?_
    · simp [-splice, f0, f1, f2, f3, f4, f11, f12, f48]
      exact hJ _ _ _ ⟨by simp [f0], by simp [f1], by simp [f2], by simp [f3], by simp [f4], by simp [f11], by simp [f12], by simp [-splice, f0, f1, f2, f3, f4, f11, f12, f48], by simp [-splice, f0, f1, f2, f3, f4, f11, f12, f48]⟩
    clear f0 f1 f2 f3 f4 f11 f12 f48
    rintro t H n ⟨f0, f1, f2, f3, f4, f11, f12, f13, f14⟩
    refine Stk.on ?_
    refine Stk.sq ?_
    refine Stk.rg ?_
    refine Stk.run 2 (fun t H n => t 0 = .ssl (encs c97 a0) a0.length false ∧ t 1 = .ssl (encs c97 a1) a1.length false ∧ t 2 = .ssl (encs c2 a2) a2.length false ∧ t 3 = .sc (.int .u8 a3) ∧ t 4 = .sc (.int .u32 a4) ∧ t 11 = .ssl (encs c97 x5.1) x5.1.length false ∧ t 12 = .sc (.int .i64 x5.2) ∧ t 13 = .ssl (encs c97 x6.1) x6.1.length false ∧ t 14 = .sc (.int .i64 x6.2) ∧ t 52 = .ssl (encs c97 a0) a0.length false ∧ t 53 = .ssl (encs c97 a0) a0.length false) (fun J hJ => ?_) ?_
    · simp [-splice, f0, f1, f2, f3, f4, f11, f12, f13, f14]
      exact hJ _ _ _ ⟨by simp [f0], by simp [f1], by simp [f2], by simp [f3], by simp [f4], by simp [f11], by simp [f12], by simp [f13], by simp [f14], by simp [-splice, f0, f1, f2, f3, f4, f11, f12, f13, f14], by simp [-splice, f0, f1, f2, f3, f4, f11, f12, f13, f14]⟩
    clear f0 f1 f2 f3 f4 f11 f12 f13 f14
    rintro t H n ⟨f0, f1, f2, f3, f4, f11, f12, f13, f14, f52, f53⟩
    obtain ⟨x7, hx7, h⟩ := bnd h
    refine Stk.cv (g := 24) (args := [.ssl (encs c97 a0) a0.length false, .ssl (encs c97 a0) a0.length false]) (args' := [.ssl (encs c97 a0) a0.length false, .ssl (encs c97 a0) a0.length false]) (v := .tup [.ssl (encs c97 x7.1) x7.1.length false, .sc (.int .i64 x7.2)]) [] (ok_poly_Max F _ _ _ hx7) (by simp [f0, f1, f2, f3, f4, f11, f12, f13, f14, f52, f53]) rfl rfl (by simp [f0, f1, f2, f3, f4, f11, f12, f13, f14, f52, f53]) (.cons (.free (freeL_encs fr97 _)) (.cons (.free (freeL_encs fr97 _)) (.nil))) (.inl ⟨rfl, by simp [free, freeL, freeL_encs fr97]⟩) (fun t' ht' => ?_)
    refine Stk.gen (fun t H n => t 0 = .ssl (encs c97 a0) a0.length false ∧ t 1 = .ssl (encs c97 a1) a1.length false ∧ t 2 = .ssl (encs c2 a2) a2.length false ∧ t 3 = .sc (.int .u8 a3) ∧ t 4 = .sc (.int .u32 a4) ∧ t 11 = .ssl (encs c97 x5.1) x5.1.length false ∧ t 12 = .sc (.int .i64 x5.2) ∧ t 13 = .ssl (encs c97 x6.1) x6.1.length false ∧ t 14 = .sc (.int .i64 x6.2) ∧ t 54 = .tup [.ssl (encs c97 x7.1) x7.1.length false, .sc (.int .i64 x7.2)]) ⟨by simp [ht', f0], by simp [ht', f1], by simp [ht', f2], by simp [ht', f3], by simp [ht', f4], by simp [ht', f11], by simp [ht', f12], by simp [ht', f13], by simp [ht', f14], by simp [ht']⟩ ?_
    clear f0 f1 f2 f3 f4 f11 f12 f13 f14 f52 f53 ht' t'
    rintro t H n ⟨f0, f1, f2, f3, f4, f11, f12, f13, f14, f54⟩
    refine Stk.run 5 (fun t H n => t 0 = .ssl (encs c97 a0) a0.length false ∧ t 1 = .ssl (encs c97 a1) a1.length false ∧ t 2 = .ssl (encs c2 a2) a2.length false ∧ t 3 = .sc (.int .u8 a3) ∧ t 4 = .sc (.int .u32 a4) ∧ t 11 = .ssl (encs c97 x5.1) x5.1.length false ∧ t 12 = .sc (.int .i64 x5.2) ∧ t 13 = .ssl (encs c97 x6.1) x6.1.length false ∧ t 14 = .sc (.int .i64 x6.2) ∧ t 15 = .ssl (encs c97 x7.1) x7.1.length false ∧ t 16 = .sc (.int .i64 x7.2)) (fun J hJ => ?_) ?_
    · simp [-splice, f0, f1, f2, f3, f4, f11, f12, f13, f14, f54]
      exact hJ _ _ _ ⟨by simp [f0], by simp [f1], by simp [f2], by simp [f3], by simp [f4], by simp [f11], by simp [f12], by simp [f13], by simp [f14], by simp [-splice, f0, f1, f2, f3, f4, f11, f12, f13, f14, f54], by simp [-splice, f0, f1, f2, f3, f4, f11, f12, f13, f14, f54]⟩
    clear f0 f1 f2 f3 f4 f11 f12 f13 f14 f54
    rintro t H n ⟨f0, f1, f2, f3, f4, f11, f12, f13, f14, f15, f16⟩
    refine Stk.on ?_
    refine Stk.sq ?_
    refine Stk.rg ?_
    refine Stk.run 2 (fun t H n => t 0 = .ssl (encs c97 a0) a0.length false ∧ t 2 = .ssl (encs c2 a2) a2.length false ∧ t 3 = .sc (.int .u8 a3) ∧ t 4 = .sc (.int .u32 a4) ∧ t 11 = .ssl (encs c97 x5.1) x5.1.length false ∧ t 12 = .sc (.int .i64 x5.2) ∧ t 13 = .ssl (encs c97 x6.1) x6.1.length false ∧ t 14 = .sc (.int .i64 x6.2) ∧ t 15 = .ssl (encs c97 x7.1) x7.1.length false ∧ t 16 = .sc (.int .i64 x7.2) ∧ t 58 = .ssl (encs c97 a0) a0.length false ∧ t 59 = .ssl (encs c97 a1) a1.length false) (fun J hJ => ?_) ?_
    · simp [-splice, f0, f1, f2, f3, f4, f11, f12, f13, f14, f15, f16]
      exact hJ _ _ _ ⟨by simp [f0], by simp [f2], by simp [f3], by simp [f4], by simp [f11], by simp [f12], by simp [f13], by simp [f14], by simp [f15], by simp [f16], by simp [-splice, f0, f1, f2, f3, f4, f11, f12, f13, f14, f15, f16], by simp [-splice, f0, f1, f2, f3, f4, f11, f12, f13, f14, f15, f16]⟩
    clear f0 f1 f2 f3 f4 f11 f12 f13 f14 f15 f16
    rintro t H n ⟨f0, f2, f3, f4, f11, f12, f13, f14, f15, f16, f58, f59⟩
    obtain ⟨x8, hx8, h⟩ := bnd h
    refine Stk.cv (g := 20) (args := [.ssl (encs c97 a0) a0.length false, .ssl (encs c97 a1) a1.length false]) (args' := [.ssl (encs c97 a0) a0.length false, .ssl (encs c97 a1) a1.length false]) (v := .tup [.ssl (encs c97 x8.1) x8.1.length false, .sc (.int .i64 x8.2)]) [] (ok_poly_Add F _ _ _ hx8) (by simp [f0, f2, f3, f4, f11, f12, f13, f14, f15, f16, f58, f59]) rfl rfl (by simp [f0, f2, f3, f4, f11, f12, f13, f14, f15, f16, f58, f59]) (.cons (.free (freeL_encs fr97 _)) (.cons (.free (freeL_encs fr97 _)) (.nil))) (.inl ⟨rfl, by simp [free, freeL, freeL_encs fr97]⟩) (fun t' ht' => ?_)
    refine Stk.gen (fun t H n => t 0 = .ssl (encs c97 a0) a0.length false ∧ t 2 = .ssl (encs c2 a2) a2.length false ∧ t 3 = .sc (.int .u8 a3) ∧ t 4 = .sc (.int .u32 a4) ∧ t 11 = .ssl (encs c97 x5.1) x5.1.length false ∧ t 12 = .sc (.int .i64 x5.2) ∧ t 13 = .ssl (encs c97 x6.1) x6.1.length false ∧ t 14 = .sc (.int .i64 x6.2) ∧ t 15 = .ssl (encs c97 x7.1) x7.1.length false ∧ t 16 = .sc (.int .i64 x7.2) ∧ t 60 = .tup [.ssl (encs c97 x8.1) x8.1.length false, .sc (.int .i64 x8.2)]) ⟨by simp [ht', f0], by simp [ht', f2], by simp [ht', f3], by simp [ht', f4], by simp [ht', f11], by simp [ht', f12], by simp [ht', f13], by simp [ht', f14], by simp [ht', f15], by simp [ht', f16], by simp [ht']⟩ ?_
    clear f0 f2 f3 f4 f11 f12 f13 f14 f15 f16 f58 f59 ht' t'
    rintro t H n ⟨f0, f2, f3, f4, f11, f12, f13, f14, f15, f16, f60⟩
    refine Stk.run 5 (fun t H n => t 0 = .ssl (encs c97 a0) a0.length false ∧ t 2 = .ssl (encs c2 a2) a2.length false ∧ t 3 = .sc (.int .u8 a3) ∧ t 4 = .sc (.int .u32 a4) ∧ t 11 = .ssl (encs c97 x5.1) x5.1.length false ∧ t 12 = .sc (.int .i64 x5.2) ∧ t 13 = .ssl (encs c97 x6.1) x6.1.length false ∧ t 14 = .sc (.int .i64 x6.2) ∧ t 15 = .ssl (encs c97 x7.1) x7.1.length false ∧ t 16 = .sc (.int .i64 x7.2) ∧ t 17 = .ssl (encs c97 x8.1) x8.1.length false ∧ t 18 = .sc (.int .i64 x8.2)) (fun J hJ => ?_) ?_
    · simp [-splice, f0, f2, f3, f4, f11, f12, f13, f14, f15, f16, f60]
      exact hJ _ _ _ ⟨by simp [f0], by simp [f2], by simp [f3], by simp [f4], by simp [f11], by simp [f12], by simp [f13], by simp [f14], by simp [f15], by simp [f16], by simp [-splice, f0, f2, f3, f4, f11, f12, f13, f14, f15, f16, f60], by simp [-splice, f0, f2, f3, f4, f11, f12, f13, f14, f15, f16, f60]⟩
    clear f0 f2 f3 f4 f11 f12 f13 f14 f15 f16 f60
    rintro t H n ⟨f0, f2, f3, f4, f11, f12, f13, f14, f15, f16, f17, f18⟩
    refine Stk.on ?_
    refine Stk.sq ?_
    refine Stk.sq ?_
    refine Stk.rg ?_
    refine Stk.run 4 (fun t H n => t 0 = .ssl (encs c97 a0) a0.length false ∧ t 2 = .ssl (encs c2 a2) a2.length false ∧ t 3 = .sc (.int .u8 a3) ∧ t 4 = .sc (.int .u32 a4) ∧ t 11 = .ssl (encs c97 x5.1) x5.1.length false ∧ t 12 = .sc (.int .i64 x5.2) ∧ t 13 = .ssl (encs c97 x6.1) x6.1.length false ∧ t 15 = .ssl (encs c97 x7.1) x7.1.length false ∧ t 16 = .sc (.int .i64 x7.2) ∧ t 17 = .ssl (encs c97 x8.1) x8.1.length false ∧ t 18 = .sc (.int .i64 x8.2) ∧ t 66 = .sc (.bool (x5.2 != x6.2))) (fun J hJ => ?_) ?_
    · simp [-splice, f0, f2, f3, f4, f11, f12, f13, f14, f15, f16, f17, f18]
      exact hJ _ _ _ ⟨by simp [f0], by simp [f2], by simp [f3], by simp [f4], by simp [f11], by simp [f12], by simp [f13], by simp [f15], by simp [f16], by simp [f17], by simp [f18], by simp [-splice, f0, f2, f3, f4, f11, f12, f13, f14, f15, f16, f17, f18]⟩
    clear f0 f2 f3 f4 f11 f12 f13 f14 f15 f16 f17 f18
    rintro t H n ⟨f0, f2, f3, f4, f11, f12, f13, f15, f16, f17, f18, f66⟩
    obtain ⟨K2, hK2, h⟩ := jnd h
    refine Stk.jo 5 (fun t H n => ∃ v9 : Bool, K2 v9 = some r ∧ t 0 = .ssl (encs c97 a0) a0.length false ∧ t 2 = .ssl (encs c2 a2) a2.length false ∧ t 3 = .sc (.int .u8 a3) ∧ t 4 = .sc (.int .u32 a4) ∧ t 11 = .ssl (encs c97 x5.1) x5.1.length false ∧ t 12 = .sc (.int .i64 x5.2) ∧ t 15 = .ssl (encs c97 x7.1) x7.1.length false ∧ t 16 = .sc (.int .i64 x7.2) ∧ t 17 = .ssl (encs c97 x8.1) x8.1.length false ∧ t 18 = .sc (.int .i64 x8.2) ∧ t 71 = .sc (.bool v9)) (fun J2 hJ2 => ?_) ?_
    · rcases Bool.eq_false_or_eq_true (x5.2 != x6.2) with hb2 | hb2
      · rw [hb2] at f66
        replace h := cT hb2 h
        refine Stk.run 5 (fun t H n => t 0 = .ssl (encs c97 a0) a0.length false ∧ t 2 = .ssl (encs c2 a2) a2.length false ∧ t 3 = .sc (.int .u8 a3) ∧ t 4 = .sc (.int .u32 a4) ∧ t 11 = .ssl (encs c97 x5.1) x5.1.length false ∧ t 12 = .sc (.int .i64 x5.2) ∧ t 15 = .ssl (encs c97 x7.1) x7.1.length false ∧ t 16 = .sc (.int .i64 x7.2) ∧ t 17 = .ssl (encs c97 x8.1) x8.1.length false ∧ t 18 = .sc (.int .i64 x8.2) ∧ t 71 = .sc (.bool true)) (fun J hJ => ?_) ?_
        · simp [-splice, f0, f2, f3, f4, f11, f12, f13, f15, f16, f17, f18, f66]
          exact hJ _ _ _ ⟨by simp [f0], by simp [f2], by simp [f3], by simp [f4], by simp [f11], by simp [f12], by simp [f15], by simp [f16], by simp [f17], by simp [f18], by simp [-splice, f0, f2, f3, f4, f11, f12, f13, f15, f16, f17, f18, f66]⟩
        clear f0 f2 f3 f4 f11 f12 f13 f15 f16 f17 f18 f66
        rintro t H n ⟨f0, f2, f3, f4, f11, f12, f15, f16, f17, f18, f71⟩
        refine Stk.on ?_
        exact Stk.ln 0 (by decide) (hJ2 _ _ _ ⟨true, h, f0, f2, f3, f4, f11, f12, f15, f16, f17, f18, f71⟩)
      · rw [hb2] at f66
        replace h := cF hb2 h
        refine Stk.run 2 (fun t H n => t 0 = .ssl (encs c97 a0) a0.length false ∧ t 2 = .ssl (encs c2 a2) a2.length false ∧ t 3 = .sc (.int .u8 a3) ∧ t 4 = .sc (.int .u32 a4) ∧ t 11 = .ssl (encs c97 x5.1) x5.1.length false ∧ t 12 = .sc (.int .i64 x5.2) ∧ t 15 = .ssl (encs c97 x7.1) x7.1.length false ∧ t 16 = .sc (.int .i64 x7.2) ∧ t 17 = .ssl (encs c97 x8.1) x8.1.length false ∧ t 18 = .sc (.int .i64 x8.2) ∧ t 66 = .sc (.bool false) ∧ t 67 = .ssl (encs c97 x5.1) x5.1.length false ∧ t 68 = .ssl (encs c97 x6.1) x6.1.length false) (fun J hJ => ?_) ?_
        · simp [-splice, f0, f2, f3, f4, f11, f12, f13, f15, f16, f17, f18, f66]
          exact hJ _ _ _ ⟨by simp [f0], by simp [f2], by simp [f3], by simp [f4], by simp [f11], by simp [f12], by simp [f15], by simp [f16], by simp [f17], by simp [f18], by simp [f66], by simp [-splice, f0, f2, f3, f4, f11, f12, f13, f15, f16, f17, f18, f66], by simp [-splice, f0, f2, f3, f4, f11, f12, f13, f15, f16, f17, f18, f66]⟩
        clear f0 f2 f3 f4 f11 f12 f13 f15 f16 f17 f18 f66
        rintro t H n ⟨f0, f2, f3, f4, f11, f12, f15, f16, f17, f18, f66, f67, f68⟩
        obtain ⟨x10, hx10, h⟩ := bnd h
        refine Stk.cv (g := 22) (args := [.ssl (encs c97 x5.1) x5.1.length false, .ssl (encs c97 x6.1) x6.1.length false]) (args' := [.ssl (encs c97 x5.1) x5.1.length false, .ssl (encs c97 x6.1) x6.1.length false]) (v := .sc (.bool x10)) [] (ok_R13_Same F _ _ _ hx10) (by simp [f0, f2, f3, f4, f11, f12, f15, f16, f17, f18, f66, f67, f68]) rfl rfl (by simp [f0, f2, f3, f4, f11, f12, f15, f16, f17, f18, f66, f67, f68]) (.cons (.free (freeL_encs fr97 _)) (.cons (.free (freeL_encs fr97 _)) (.nil))) (.inl ⟨rfl, rfl⟩) (fun t' ht' => ?_)
        refine Stk.gen (fun t H n => t 0 = .ssl (encs c97 a0) a0.length false ∧ t 2 = .ssl (encs c2 a2) a2.length false ∧ t 3 = .sc (.int .u8 a3) ∧ t 4 = .sc (.int .u32 a4) ∧ t 11 = .ssl (encs c97 x5.1) x5.1.length false ∧ t 12 = .sc (.int .i64 x5.2) ∧ t 15 = .ssl (encs c97 x7.1) x7.1.length false ∧ t 16 = .sc (.int .i64 x7.2) ∧ t 17 = .ssl (encs c97 x8.1) x8.1.length false ∧ t 18 = .sc (.int .i64 x8.2) ∧ t 66 = .sc (.bool false) ∧ t 69 = .sc (.bool x10)) ⟨by simp [ht', f0], by simp [ht', f2], by simp [ht', f3], by simp [ht', f4], by simp [ht', f11], by simp [ht', f12], by simp [ht', f15], by simp [ht', f16], by simp [ht', f17], by simp [ht', f18], by simp [ht', f66], by simp [ht']⟩ ?_
        clear f0 f2 f3 f4 f11 f12 f15 f16 f17 f18 f66 f67 f68 ht' t'
        rintro t H n ⟨f0, f2, f3, f4, f11, f12, f15, f16, f17, f18, f66, f69⟩
        refine Stk.run 2 (fun t H n => t 0 = .ssl (encs c97 a0) a0.length false ∧ t 2 = .ssl (encs c2 a2) a2.length false ∧ t 3 = .sc (.int .u8 a3) ∧ t 4 = .sc (.int .u32 a4) ∧ t 11 = .ssl (encs c97 x5.1) x5.1.length false ∧ t 12 = .sc (.int .i64 x5.2) ∧ t 15 = .ssl (encs c97 x7.1) x7.1.length false ∧ t 16 = .sc (.int .i64 x7.2) ∧ t 17 = .ssl (encs c97 x8.1) x8.1.length false ∧ t 18 = .sc (.int .i64 x8.2) ∧ t 71 = .sc (.bool (!x10))) (fun J hJ => ?_) ?_
        · simp [-splice, f0, f2, f3, f4, f11, f12, f15, f16, f17, f18, f66, f69]
          exact hJ _ _ _ ⟨by simp [f0], by simp [f2], by simp [f3], by simp [f4], by simp [f11], by simp [f12], by simp [f15], by simp [f16], by simp [f17], by simp [f18], by simp [-splice, f0, f2, f3, f4, f11, f12, f15, f16, f17, f18, f66, f69]⟩
        clear f0 f2 f3 f4 f11 f12 f15 f16 f17 f18 f66 f69
        rintro t H n ⟨f0, f2, f3, f4, f11, f12, f15, f16, f17, f18, f71⟩
        refine Stk.on ?_
        exact Stk.ln 0 (by decide) (hJ2 _ _ _ ⟨(!x10), h, f0, f2, f3, f4, f11, f12, f15, f16, f17, f18, f71⟩)
    clear h f0 f2 f3 f4 f11 f12 f13 f15 f16 f17 f18 f66
    rintro t H n ⟨v9, h, f0, f2, f3, f4, f11, f12, f15, f16, f17, f18, f71⟩
    subst hK2
    refine Stk.run 1 (fun t H n => t 0 = .ssl (encs c97 a0) a0.length false ∧ t 2 = .ssl (encs c2 a2) a2.length false ∧ t 3 = .sc (.int .u8 a3) ∧ t 4 = .sc (.int .u32 a4) ∧ t 11 = .ssl (encs c97 x5.1) x5.1.length false ∧ t 12 = .sc (.int .i64 x5.2) ∧ t 15 = .ssl (encs c97 x7.1) x7.1.length false ∧ t 16 = .sc (.int .i64 x7.2) ∧ t 17 = .ssl (encs c97 x8.1) x8.1.length false ∧ t 18 = .sc (.int .i64 x8.2) ∧ t 72 = .sc (.bool v9)) (fun J hJ => ?_) ?_
    · simp [-splice, f0, f2, f3, f4, f11, f12, f15, f16, f17, f18, f71]
      exact hJ _ _ _ ⟨by simp [f0], by simp [f2], by simp [f3], by simp [f4], by simp [f11], by simp [f12], by simp [f15], by simp [f16], by simp [f17], by simp [f18], by simp [-splice, f0, f2, f3, f4, f11, f12, f15, f16, f17, f18, f71]⟩
    clear f0 f2 f3 f4 f11 f12 f15 f16 f17 f18 f71
    rintro t H n ⟨f0, f2, f3, f4, f11, f12, f15, f16, f17, f18, f72⟩
    refine Stk.jo 3 (fun t H n => t 0 = .ssl (encs c97 a0) a0.length false ∧ t 2 = .ssl (encs c2 a2) a2.length false ∧ t 3 = .sc (.int .u8 a3) ∧ t 4 = .sc (.int .u32 a4) ∧ t 11 = .ssl (encs c97 x5.1) x5.1.length false ∧ t 12 = .sc (.int .i64 x5.2) ∧ t 15 = .ssl (encs c97 x7.1) x7.1.length false ∧ t 17 = .ssl (encs c97 x8.1) x8.1.length false ∧ t 18 = .sc (.int .i64 x8.2) ∧ t 75 = .sc (.bool (v9 || (x7.2 != 0)))) (fun J3 hJ3 => ?_) ?_
    · rcases Bool.eq_false_or_eq_true v9 with hb3 | hb3
      · rw [hb3] at f72
        refine Stk.run 3 (fun t H n => t 0 = .ssl (encs c97 a0) a0.length false ∧ t 2 = .ssl (encs c2 a2) a2.length false ∧ t 3 = .sc (.int .u8 a3) ∧ t 4 = .sc (.int .u32 a4) ∧ t 11 = .ssl (encs c97 x5.1) x5.1.length false ∧ t 12 = .sc (.int .i64 x5.2) ∧ t 15 = .ssl (encs c97 x7.1) x7.1.length false ∧ t 17 = .ssl (encs c97 x8.1) x8.1.length false ∧ t 18 = .sc (.int .i64 x8.2) ∧ t 75 = .sc (.bool true)) (fun J hJ => ?_) ?_
        · simp [-splice, f0, f2, f3, f4, f11, f12, f15, f16, f17, f18, f72]
          exact hJ _ _ _ ⟨by simp [f0], by simp [f2], by simp [f3], by simp [f4], by simp [f11], by simp [f12], by simp [f15], by simp [f17], by simp [f18], by simp [-splice, f0, f2, f3, f4, f11, f12, f15, f16, f17, f18, f72]⟩
        clear f0 f2 f3 f4 f11 f12 f15 f16 f17 f18 f72
        rintro t H n ⟨f0, f2, f3, f4, f11, f12, f15, f17, f18, f75⟩
        refine Stk.on ?_
        exact Stk.ln 0 (by decide) (hJ3 _ _ _ ⟨f0, f2, f3, f4, f11, f12, f15, f17, f18, f75.trans (congrArg (fun q => AV.sc (.bool q)) (by rw [hb3]; rfl))⟩)
      · rw [hb3] at f72
        refine Stk.run 3 (fun t H n => t 0 = .ssl (encs c97 a0) a0.length false ∧ t 2 = .ssl (encs c2 a2) a2.length false ∧ t 3 = .sc (.int .u8 a3) ∧ t 4 = .sc (.int .u32 a4) ∧ t 11 = .ssl (encs c97 x5.1) x5.1.length false ∧ t 12 = .sc (.int .i64 x5.2) ∧ t 15 = .ssl (encs c97 x7.1) x7.1.length false ∧ t 17 = .ssl (encs c97 x8.1) x8.1.length false ∧ t 18 = .sc (.int .i64 x8.2) ∧ t 75 = .sc (.bool (x7.2 != 0))) (fun J hJ => ?_) ?_
        · simp [-splice, f0, f2, f3, f4, f11, f12, f15, f16, f17, f18, f72]
          exact hJ _ _ _ ⟨by simp [f0], by simp [f2], by simp [f3], by simp [f4], by simp [f11], by simp [f12], by simp [f15], by simp [f17], by simp [f18], by simp [-splice, f0, f2, f3, f4, f11, f12, f15, f16, f17, f18, f72]⟩
        clear f0 f2 f3 f4 f11 f12 f15 f16 f17 f18 f72
        rintro t H n ⟨f0, f2, f3, f4, f11, f12, f15, f17, f18, f75⟩
        refine Stk.on ?_
        exact Stk.ln 0 (by decide) (hJ3 _ _ _ ⟨f0, f2, f3, f4, f11, f12, f15, f17, f18, f75.trans (congrArg (fun q => AV.sc (.bool q)) (by rw [hb3]; rfl))⟩)
    clear f0 f2 f3 f4 f11 f12 f15 f16 f17 f18 f72
    rintro t H n ⟨f0, f2, f3, f4, f11, f12, f15, f17, f18, f75⟩
    refine Stk.run 1 (fun t H n => t 0 = .ssl (encs c97 a0) a0.length false ∧ t 2 = .ssl (encs c2 a2) a2.length false ∧ t 3 = .sc (.int .u8 a3) ∧ t 4 = .sc (.int .u32 a4) ∧ t 11 = .ssl (encs c97 x5.1) x5.1.length false ∧ t 12 = .sc (.int .i64 x5.2) ∧ t 15 = .ssl (encs c97 x7.1) x7.1.length false ∧ t 17 = .ssl (encs c97 x8.1) x8.1.length false ∧ t 18 = .sc (.int .i64 x8.2) ∧ t 76 = .sc (.bool (v9 || (x7.2 != 0)))) (fun J hJ => ?_) ?_
    · simp [-splice, f0, f2, f3, f4, f11, f12, f15, f17, f18, f75]
      exact hJ _ _ _ ⟨by simp [f0], by simp [f2], by simp [f3], by simp [f4], by simp [f11], by simp [f12], by simp [f15], by simp [f17], by simp [f18], by simp [-splice, f0, f2, f3, f4, f11, f12, f15, f17, f18, f75]⟩
    clear f0 f2 f3 f4 f11 f12 f15 f17 f18 f75
    rintro t H n ⟨f0, f2, f3, f4, f11, f12, f15, f17, f18, f76⟩
    obtain ⟨K4, hK4, h⟩ := jnd h
    refine Stk.jo 5 (fun t H n => ∃ v11 : Bool, K4 v11 = some r ∧ t 0 = .ssl (encs c97 a0) a0.length false ∧ t 2 = .ssl (encs c2 a2) a2.length false ∧ t 3 = .sc (.int .u8 a3) ∧ t 4 = .sc (.int .u32 a4) ∧ t 11 = .ssl (encs c97 x5.1) x5.1.length false ∧ t 12 = .sc (.int .i64 x5.2) ∧ t 17 = .ssl (encs c97 x8.1) x8.1.length false ∧ t 18 = .sc (.int .i64 x8.2) ∧ t 81 = .sc (.bool v11)) (fun J4 hJ4 => ?_) ?_
    · rcases Bool.eq_false_or_eq_true (v9 || (x7.2 != 0)) with hb4 | hb4
      · rw [hb4] at f76
        replace h := cT hb4 h
        refine Stk.run 5 (fun t H n => t 0 = .ssl (encs c97 a0) a0.length false ∧ t 2 = .ssl (encs c2 a2) a2.length false ∧ t 3 = .sc (.int .u8 a3) ∧ t 4 = .sc (.int .u32 a4) ∧ t 11 = .ssl (encs c97 x5.1) x5.1.length false ∧ t 12 = .sc (.int .i64 x5.2) ∧ t 17 = .ssl (encs c97 x8.1) x8.1.length false ∧ t 18 = .sc (.int .i64 x8.2) ∧ t 81 = .sc (.bool true)) (fun J hJ => ?_) ?_
        · simp [-splice, f0, f2, f3, f4, f11, f12, f15, f17, f18, f76]
          exact hJ _ _ _ ⟨by simp [f0], by simp [f2], by simp [f3], by simp [f4], by simp [f11], by simp [f12], by simp [f17], by simp [f18], by simp [-splice, f0, f2, f3, f4, f11, f12, f15, f17, f18, f76]⟩
        clear f0 f2 f3 f4 f11 f12 f15 f17 f18 f76
        rintro t H n ⟨f0, f2, f3, f4, f11, f12, f17, f18, f81⟩
        refine Stk.on ?_
        exact Stk.ln 0 (by decide) (hJ4 _ _ _ ⟨true, h, f0, f2, f3, f4, f11, f12, f17, f18, f81⟩)
      · rw [hb4] at f76
        replace h := cF hb4 h
        refine Stk.run 2 (fun t H n => t 0 = .ssl (encs c97 a0) a0.length false ∧ t 2 = .ssl (encs c2 a2) a2.length false ∧ t 3 = .sc (.int .u8 a3) ∧ t 4 = .sc (.int .u32 a4) ∧ t 11 = .ssl (encs c97 x5.1) x5.1.length false ∧ t 12 = .sc (.int .i64 x5.2) ∧ t 17 = .ssl (encs c97 x8.1) x8.1.length false ∧ t 18 = .sc (.int .i64 x8.2) ∧ t 76 = .sc (.bool false) ∧ t 77 = .ssl (encs c97 x7.1) x7.1.length false ∧ t 78 = .ssl (encs c97 a0) a0.length false) (fun J hJ => ?_) ?_
        · simp [-splice, f0, f2, f3, f4, f11, f12, f15, f17, f18, f76]
          exact hJ _ _ _ ⟨by simp [f0], by simp [f2], by simp [f3], by simp [f4], by simp [f11], by simp [f12], by simp [f17], by simp [f18], by simp [f76], by simp [-splice, f0, f2, f3, f4, f11, f12, f15, f17, f18, f76], by simp [-splice, f0, f2, f3, f4, f11, f12, f15, f17, f18, f76]⟩
        clear f0 f2 f3 f4 f11 f12 f15 f17 f18 f76
        rintro t H n ⟨f0, f2, f3, f4, f11, f12, f17, f18, f76, f77, f78⟩
        obtain ⟨x12, hx12, h⟩ := bnd h
        refine Stk.cv (g := 22) (args := [.ssl (encs c97 x7.1) x7.1.length false, .ssl (encs c97 a0) a0.length false]) (args' := [.ssl (encs c97 x7.1) x7.1.length false, .ssl (encs c97 a0) a0.length false]) (v := .sc (.bool x12)) [] (ok_R13_Same F _ _ _ hx12) (by simp [f0, f2, f3, f4, f11, f12, f17, f18, f76, f77, f78]) rfl rfl (by simp [f0, f2, f3, f4, f11, f12, f17, f18, f76, f77, f78]) (.cons (.free (freeL_encs fr97 _)) (.cons (.free (freeL_encs fr97 _)) (.nil))) (.inl ⟨rfl, rfl⟩) (fun t' ht' => ?_)
        refine Stk.gen (fun t H n => t 0 = .ssl (encs c97 a0) a0.length false ∧ t 2 = .ssl (encs c2 a2) a2.length false ∧ t 3 = .sc (.int .u8 a3) ∧ t 4 = .sc (.int .u32 a4) ∧ t 11 = .ssl (encs c97 x5.1) x5.1.length false ∧ t 12 = .sc (.int .i64 x5.2) ∧ t 17 = .ssl (encs c97 x8.1) x8.1.length false ∧ t 18 = .sc (.int .i64 x8.2) ∧ t 76 = .sc (.bool false) ∧ t 79 = .sc (.bool x12)) ⟨by simp [ht', f0], by simp [ht', f2], by simp [ht', f3], by simp [ht', f4], by simp [ht', f11], by simp [ht', f12], by simp [ht', f17], by simp [ht', f18], by simp [ht', f76], by simp [ht']⟩ ?_
        clear f0 f2 f3 f4 f11 f12 f17 f18 f76 f77 f78 ht' t'
        rintro t H n ⟨f0, f2, f3, f4, f11, f12, f17, f18, f76, f79⟩
        refine Stk.run 2 (fun t H n => t 0 = .ssl (encs c97 a0) a0.length false ∧ t 2 = .ssl (encs c2 a2) a2.length false ∧ t 3 = .sc (.int .u8 a3) ∧ t 4 = .sc (.int .u32 a4) ∧ t 11 = .ssl (encs c97 x5.1) x5.1.length false ∧ t 12 = .sc (.int .i64 x5.2) ∧ t 17 = .ssl (encs c97 x8.1) x8.1.length false ∧ t 18 = .sc (.int .i64 x8.2) ∧ t 81 = .sc (.bool (!x12))) (fun J hJ => ?_) ?_
        · simp [-splice, f0, f2, f3, f4, f11, f12, f17, f18, f76, f79]
          exact hJ _ _ _ ⟨by simp [f0], by simp [f2], by simp [f3], by simp [f4], by simp [f11], by simp [f12], by simp [f17], by simp [f18], by simp [-splice, f0, f2, f3, f4, f11, f12, f17, f18, f76, f79]⟩
        clear f0 f2 f3 f4 f11 f12 f17 f18 f76 f79
        rintro t H n ⟨f0, f2, f3, f4, f11, f12, f17, f18, f81⟩
        refine Stk.on ?_
        exact Stk.ln 0 (by decide) (hJ4 _ _ _ ⟨(!x12), h, f0, f2, f3, f4, f11, f12, f17, f18, f81⟩)
    clear h f0 f2 f3 f4 f11 f12 f15 f17 f18 f76
    rintro t H n ⟨v11, h, f0, f2, f3, f4, f11, f12, f17, f18, f81⟩
    subst hK4
    refine Stk.on ?_
    refine Stk.cond v11 (by exact f81) (fun hb13 => ?_) (fun hb13 => ?_)
    · have h := cT hb13 h
      refine Stk.sq ?_
      refine Stk.rg ?_
      refine Stk.run 1 (fun t H n => t 10 = .sc (.bool false)) (fun J hJ => ?_) ?_
      · simp [-splice, f0, f2, f3, f4, f11, f12, f17, f18, f81]
        exact hJ _ _ _ (by simp [-splice, f0, f2, f3, f4, f11, f12, f17, f18, f81])
      clear f0 f2 f3 f4 f11 f12 f17 f18 f81
      rintro t H n f10
      refine Stk.on ?_
      refine Stk.rt ?_
      have hq := Option.some.inj h; subst hq
      exact (hr _ _ _ (.sc (.bool false)) ([]) (by simp [f10]) (.inr (.inr (.free (rfl))))).1
    · have h := cF hb13 h
      refine Stk.sk ?_
      refine Stk.sq ?_
      refine Stk.rg ?_
      refine Stk.run 2 (fun t H n => t 0 = .ssl (encs c97 a0) a0.length false ∧ t 2 = .ssl (encs c2 a2) a2.length false ∧ t 3 = .sc (.int .u8 a3) ∧ t 4 = .sc (.int .u32 a4) ∧ t 12 = .sc (.int .i64 x5.2) ∧ t 17 = .ssl (encs c97 x8.1) x8.1.length false ∧ t 18 = .sc (.int .i64 x8.2) ∧ t 83 = .ssl (encs c97 x5.1) x5.1.length false ∧ t 84 = .ssl (encs c2 a2) a2.length false) (fun J hJ => ?_) ?_
      · simp [-splice, f0, f2, f3, f4, f11, f12, f17, f18, f81]
        exact hJ _ _ _ ⟨by simp [f0], by simp [f2], by simp [f3], by simp [f4], by simp [f12], by simp [f17], by simp [f18], by simp [-splice, f0, f2, f3, f4, f11, f12, f17, f18, f81], by simp [-splice, f0, f2, f3, f4, f11, f12, f17, f18, f81]⟩
      clear f0 f2 f3 f4 f11 f12 f17 f18 f81
      rintro t H n ⟨f0, f2, f3, f4, f12, f17, f18, f83, f84⟩
      obtain ⟨x14, hx14, h⟩ := bnd h
      refine Stk.cv (g := 25) (args := [.ssl (encs c97 x5.1) x5.1.length false, .ssl (encs c2 a2) a2.length false]) (args' := [.ssl (encs c97 x5.1) x5.1.length false, .ssl (encs c2 a2) a2.length false]) (v := .tup [.sc (.int .i64 x14.1), .sc (.int .i64 x14.2)]) [] (ok_poly_At F _ _ _ hx14) (by simp [f0, f2, f3, f4, f12, f17, f18, f83, f84]) rfl rfl (by simp [f0, f2, f3, f4, f12, f17, f18, f83, f84]) (.cons (.free (freeL_encs fr97 _)) (.cons (.free (freeL_encs fr2 _)) (.nil))) (.inl ⟨rfl, by simp [free, freeL]⟩) (fun t' ht' => ?_)
      refine Stk.gen (fun t H n => t 0 = .ssl (encs c97 a0) a0.length false ∧ t 2 = .ssl (encs c2 a2) a2.length false ∧ t 3 = .sc (.int .u8 a3) ∧ t 4 = .sc (.int .u32 a4) ∧ t 12 = .sc (.int .i64 x5.2) ∧ t 17 = .ssl (encs c97 x8.1) x8.1.length false ∧ t 18 = .sc (.int .i64 x8.2) ∧ t 85 = .tup [.sc (.int .i64 x14.1), .sc (.int .i64 x14.2)]) ⟨by simp [ht', f0], by simp [ht', f2], by simp [ht', f3], by simp [ht', f4], by simp [ht', f12], by simp [ht', f17], by simp [ht', f18], by simp [ht']⟩ ?_
      clear f0 f2 f3 f4 f12 f17 f18 f83 f84 ht' t'
      rintro t H n ⟨f0, f2, f3, f4, f12, f17, f18, f85⟩
      refine Stk.run 5 (fun t H n => t 0 = .ssl (encs c97 a0) a0.length false ∧ t 2 = .ssl (encs c2 a2) a2.length false ∧ t 3 = .sc (.int .u8 a3) ∧ t 4 = .sc (.int .u32 a4) ∧ t 12 = .sc (.int .i64 x5.2) ∧ t 17 = .ssl (encs c97 x8.1) x8.1.length false ∧ t 18 = .sc (.int .i64 x8.2) ∧ t 19 = .sc (.int .i64 x14.1) ∧ t 20 = .sc (.int .i64 x14.2)) (fun J hJ => ?_) ?_
      · simp [-splice, f0, f2, f3, f4, f12, f17, f18, f85]
        exact hJ _ _ _ ⟨by simp [f0], by simp [f2], by simp [f3], by simp [f4], by simp [f12], by simp [f17], by simp [f18], by simp [-splice, f0, f2, f3, f4, f12, f17, f18, f85], by simp [-splice, f0, f2, f3, f4, f12, f17, f18, f85]⟩
      clear f0 f2 f3 f4 f12 f17 f18 f85
      rintro t H n ⟨f0, f2, f3, f4, f12, f17, f18, f19, f20⟩
      refine Stk.on ?_
      refine Stk.sq ?_
      refine Stk.rg ?_
      refine Stk.run 2 (fun t H n => t 0 = .ssl (encs c97 a0) a0.length false ∧ t 2 = .ssl (encs c2 a2) a2.length false ∧ t 3 = .sc (.int .u8 a3) ∧ t 4 = .sc (.int .u32 a4) ∧ t 12 = .sc (.int .i64 x5.2) ∧ t 18 = .sc (.int .i64 x8.2) ∧ t 19 = .sc (.int .i64 x14.1) ∧ t 20 = .sc (.int .i64 x14.2) ∧ t 89 = .ssl (encs c97 x8.1) x8.1.length false ∧ t 90 = .ssl (encs c2 a2) a2.length false) (fun J hJ => ?_) ?_
      · simp [-splice, f0, f2, f3, f4, f12, f17, f18, f19, f20]
        exact hJ _ _ _ ⟨by simp [f0], by simp [f2], by simp [f3], by simp [f4], by simp [f12], by simp [f18], by simp [f19], by simp [f20], by simp [-splice, f0, f2, f3, f4, f12, f17, f18, f19, f20], by simp [-splice, f0, f2, f3, f4, f12, f17, f18, f19, f20]⟩
      clear f0 f2 f3 f4 f12 f17 f18 f19 f20
      rintro t H n ⟨f0, f2, f3, f4, f12, f18, f19, f20, f89, f90⟩
      obtain ⟨x15, hx15, h⟩ := bnd h
      refine Stk.cv (g := 25) (args := [.ssl (encs c97 x8.1) x8.1.length false, .ssl (encs c2 a2) a2.length false]) (args' := [.ssl (encs c97 x8.1) x8.1.length false, .ssl (encs c2 a2) a2.length false]) (v := .tup [.sc (.int .i64 x15.1), .sc (.int .i64 x15.2)]) [] (ok_poly_At F _ _ _ hx15) (by simp [f0, f2, f3, f4, f12, f18, f19, f20, f89, f90]) rfl rfl (by simp [f0, f2, f3, f4, f12, f18, f19, f20, f89, f90]) (.cons (.free (freeL_encs fr97 _)) (.cons (.free (freeL_encs fr2 _)) (.nil))) (.inl ⟨rfl, by simp [free, freeL]⟩) (fun t' ht' => ?_)
      refine Stk.gen (fun t H n => t 0 = .ssl (encs c97 a0) a0.length false ∧ t 2 = .ssl (encs c2 a2) a2.length false ∧ t 3 = .sc (.int .u8 a3) ∧ t 4 = .sc (.int .u32 a4) ∧ t 12 = .sc (.int .i64 x5.2) ∧ t 18 = .sc (.int .i64 x8.2) ∧ t 19 = .sc (.int .i64 x14.1) ∧ t 20 = .sc (.int .i64 x14.2) ∧ t 91 = .tup [.sc (.int .i64 x15.1), .sc (.int .i64 x15.2)]) ⟨by simp [ht', f0], by simp [ht', f2], by simp [ht', f3], by simp [ht', f4], by simp [ht', f12], by simp [ht', f18], by simp [ht', f19], by simp [ht', f20], by simp [ht']⟩ ?_
      clear f0 f2 f3 f4 f12 f18 f19 f20 f89 f90 ht' t'
      rintro t H n ⟨f0, f2, f3, f4, f12, f18, f19, f20, f91⟩
      refine Stk.run 5 (fun t H n => t 0 = .ssl (encs c97 a0) a0.length false ∧ t 2 = .ssl (encs c2 a2) a2.length false ∧ t 3 = .sc (.int .u8 a3) ∧ t 4 = .sc (.int .u32 a4) ∧ t 12 = .sc (.int .i64 x5.2) ∧ t 18 = .sc (.int .i64 x8.2) ∧ t 19 = .sc (.int .i64 x14.1) ∧ t 20 = .sc (.int .i64 x14.2) ∧ t 21 = .sc (.int .i64 x15.1) ∧ t 22 = .sc (.int .i64 x15.2)) (fun J hJ => ?_) ?_
      · simp [-splice, f0, f2, f3, f4, f12, f18, f19, f20, f91]
        exact hJ _ _ _ ⟨by simp [f0], by simp [f2], by simp [f3], by simp [f4], by simp [f12], by simp [f18], by simp [f19], by simp [f20], by simp [-splice, f0, f2, f3, f4, f12, f18, f19, f20, f91], by simp [-splice, f0, f2, f3, f4, f12, f18, f19, f20, f91]⟩
      clear f0 f2 f3 f4 f12 f18 f19 f20 f91
      rintro t H n ⟨f0, f2, f3, f4, f12, f18, f19, f20, f21, f22⟩
      refine Stk.on ?_
      refine Stk.sq ?_
      refine Stk.sq ?_
      refine Stk.rg ?_
      refine Stk.run 3 (fun t H n => t 0 = .ssl (encs c97 a0) a0.length false ∧ t 2 = .ssl (encs c2 a2) a2.length false ∧ t 3 = .sc (.int .u8 a3) ∧ t 4 = .sc (.int .u32 a4) ∧ t 18 = .sc (.int .i64 x8.2) ∧ t 19 = .sc (.int .i64 x14.1) ∧ t 20 = .sc (.int .i64 x14.2) ∧ t 21 = .sc (.int .i64 x15.1) ∧ t 22 = .sc (.int .i64 x15.2) ∧ t 96 = .sc (.bool (x5.2 == 0))) (fun J hJ => ?_) ?_
      · simp [-splice, f0, f2, f3, f4, f12, f18, f19, f20, f21, f22]
        exact hJ _ _ _ ⟨by simp [f0], by simp [f2], by simp [f3], by simp [f4], by simp [f18], by simp [f19], by simp [f20], by simp [f21], by simp [f22], by simp [-splice, f0, f2, f3, f4, f12, f18, f19, f20, f21, f22]⟩
      clear f0 f2 f3 f4 f12 f18 f19 f20 f21 f22
      rintro t H n ⟨f0, f2, f3, f4, f18, f19, f20, f21, f22, f96⟩
      refine Stk.jo 3 (fun t H n => t 0 = .ssl (encs c97 a0) a0.length false ∧ t 2 = .ssl (encs c2 a2) a2.length false ∧ t 3 = .sc (.int .u8 a3) ∧ t 4 = .sc (.int .u32 a4) ∧ t 19 = .sc (.int .i64 x14.1) ∧ t 20 = .sc (.int .i64 x14.2) ∧ t 21 = .sc (.int .i64 x15.1) ∧ t 22 = .sc (.int .i64 x15.2) ∧ t 99 = .sc (.bool ((x5.2 == 0) && (x8.2 == 0)))) (fun J5 hJ5 => ?_) ?_
      · rcases Bool.eq_false_or_eq_true (x5.2 == 0) with hb5 | hb5
        · rw [hb5] at f96
          refine Stk.run 3 (fun t H n => t 0 = .ssl (encs c97 a0) a0.length false ∧ t 2 = .ssl (encs c2 a2) a2.length false ∧ t 3 = .sc (.int .u8 a3) ∧ t 4 = .sc (.int .u32 a4) ∧ t 19 = .sc (.int .i64 x14.1) ∧ t 20 = .sc (.int .i64 x14.2) ∧ t 21 = .sc (.int .i64 x15.1) ∧ t 22 = .sc (.int .i64 x15.2) ∧ t 99 = .sc (.bool (x8.2 == 0))) (fun J hJ => ?_) ?_
          · simp [-splice, f0, f2, f3, f4, f18, f19, f20, f21, f22, f96]
            exact hJ _ _ _ ⟨by simp [f0], by simp [f2], by simp [f3], by simp [f4], by simp [f19], by simp [f20], by simp [f21], by simp [f22], by simp [-splice, f0, f2, f3, f4, f18, f19, f20, f21, f22, f96]⟩
          clear f0 f2 f3 f4 f18 f19 f20 f21 f22 f96
          rintro t H n ⟨f0, f2, f3, f4, f19, f20, f21, f22, f99⟩
          refine Stk.on ?_
          exact Stk.ln 0 (by decide) (hJ5 _ _ _ ⟨f0, f2, f3, f4, f19, f20, f21, f22, f99.trans (congrArg (fun q => AV.sc (.bool q)) (by rw [hb5]; rfl))⟩)
        · rw [hb5] at f96
          refine Stk.run 3 (fun t H n => t 0 = .ssl (encs c97 a0) a0.length false ∧ t 2 = .ssl (encs c2 a2) a2.length false ∧ t 3 = .sc (.int .u8 a3) ∧ t 4 = .sc (.int .u32 a4) ∧ t 19 = .sc (.int .i64 x14.1) ∧ t 20 = .sc (.int .i64 x14.2) ∧ t 21 = .sc (.int .i64 x15.1) ∧ t 22 = .sc (.int .i64 x15.2) ∧ t 99 = .sc (.bool false)) (fun J hJ => ?_) ?_
          · simp [-splice, f0, f2, f3, f4, f18, f19, f20, f21, f22, f96]
            exact hJ _ _ _ ⟨by simp [f0], by simp [f2], by simp [f3], by simp [f4], by simp [f19], by simp [f20], by simp [f21], by simp [f22], by simp [-splice, f0, f2, f3, f4, f18, f19, f20, f21, f22, f96]⟩
          clear f0 f2 f3 f4 f18 f19 f20 f21 f22 f96
          rintro t H n ⟨f0, f2, f3, f4, f19, f20, f21, f22, f99⟩
          refine Stk.on ?_
          exact Stk.ln 0 (by decide) (hJ5 _ _ _ ⟨f0, f2, f3, f4, f19, f20, f21, f22, f99.trans (congrArg (fun q => AV.sc (.bool q)) (by rw [hb5]; rfl))⟩)
      clear f0 f2 f3 f4 f18 f19 f20 f21 f22 f96
      rintro t H n ⟨f0, f2, f3, f4, f19, f20, f21, f22, f99⟩
      refine Stk.run 1 (fun t H n => t 0 = .ssl (encs c97 a0) a0.length false ∧ t 2 = .ssl (encs c2 a2) a2.length false ∧ t 3 = .sc (.int .u8 a3) ∧ t 4 = .sc (.int .u32 a4) ∧ t 19 = .sc (.int .i64 x14.1) ∧ t 20 = .sc (.int .i64 x14.2) ∧ t 21 = .sc (.int .i64 x15.1) ∧ t 22 = .sc (.int .i64 x15.2) ∧ t 100 = .sc (.bool ((x5.2 == 0) && (x8.2 == 0)))) (fun J hJ => ?_) ?_
      · simp [-splice, f0, f2, f3, f4, f19, f20, f21, f22, f99]
        exact hJ _ _ _ ⟨by simp [f0], by simp [f2], by simp [f3], by simp [f4], by simp [f19], by simp [f20], by simp [f21], by simp [f22], by simp [-splice, f0, f2, f3, f4, f19, f20, f21, f22, f99]⟩
      clear f0 f2 f3 f4 f19 f20 f21 f22 f99
      rintro t H n ⟨f0, f2, f3, f4, f19, f20, f21, f22, f100⟩
      refine Stk.jo 3 (fun t H n => t 0 = .ssl (encs c97 a0) a0.length false ∧ t 2 = .ssl (encs c2 a2) a2.length false ∧ t 3 = .sc (.int .u8 a3) ∧ t 4 = .sc (.int .u32 a4) ∧ t 19 = .sc (.int .i64 x14.1) ∧ t 21 = .sc (.int .i64 x15.1) ∧ t 22 = .sc (.int .i64 x15.2) ∧ t 103 = .sc (.bool (((x5.2 == 0) && (x8.2 == 0)) && (x14.2 == 0)))) (fun J6 hJ6 => ?_) ?_
      · rcases Bool.eq_false_or_eq_true ((x5.2 == 0) && (x8.2 == 0)) with hb6 | hb6
        · rw [hb6] at f100
          refine Stk.run 3 (fun t H n => t 0 = .ssl (encs c97 a0) a0.length false ∧ t 2 = .ssl (encs c2 a2) a2.length false ∧ t 3 = .sc (.int .u8 a3) ∧ t 4 = .sc (.int .u32 a4) ∧ t 19 = .sc (.int .i64 x14.1) ∧ t 21 = .sc (.int .i64 x15.1) ∧ t 22 = .sc (.int .i64 x15.2) ∧ t 103 = .sc (.bool (x14.2 == 0))) (fun J hJ => ?_) ?_
          · simp [-splice, f0, f2, f3, f4, f19, f20, f21, f22, f100]
            exact hJ _ _ _ ⟨by simp [f0], by simp [f2], by simp [f3], by simp [f4], by simp [f19], by simp [f21], by simp [f22], by simp [-splice, f0, f2, f3, f4, f19, f20, f21, f22, f100]⟩
          clear f0 f2 f3 f4 f19 f20 f21 f22 f100
          rintro t H n ⟨f0, f2, f3, f4, f19, f21, f22, f103⟩
          refine Stk.on ?_
          exact Stk.ln 0 (by decide) (hJ6 _ _ _ ⟨f0, f2, f3, f4, f19, f21, f22, f103.trans (congrArg (fun q => AV.sc (.bool q)) (by rw [hb6]; rfl))⟩)
        · rw [hb6] at f100
          refine Stk.run 3 (fun t H n => t 0 = .ssl (encs c97 a0) a0.length false ∧ t 2 = .ssl (encs c2 a2) a2.length false ∧ t 3 = .sc (.int .u8 a3) ∧ t 4 = .sc (.int .u32 a4) ∧ t 19 = .sc (.int .i64 x14.1) ∧ t 21 = .sc (.int .i64 x15.1) ∧ t 22 = .sc (.int .i64 x15.2) ∧ t 103 = .sc (.bool false)) (fun J hJ => ?_) ?_
          · simp [-splice, f0, f2, f3, f4, f19, f20, f21, f22, f100]
            exact hJ _ _ _ ⟨by simp [f0], by simp [f2], by simp [f3], by simp [f4], by simp [f19], by simp [f21], by simp [f22], by simp [-splice, f0, f2, f3, f4, f19, f20, f21, f22, f100]⟩
          clear f0 f2 f3 f4 f19 f20 f21 f22 f100
          rintro t H n ⟨f0, f2, f3, f4, f19, f21, f22, f103⟩
          refine Stk.on ?_
          exact Stk.ln 0 (by decide) (hJ6 _ _ _ ⟨f0, f2, f3, f4, f19, f21, f22, f103.trans (congrArg (fun q => AV.sc (.bool q)) (by rw [hb6]; rfl))⟩)
      clear f0 f2 f3 f4 f19 f20 f21 f22 f100
      rintro t H n ⟨f0, f2, f3, f4, f19, f21, f22, f103⟩
      refine Stk.run 1 (fun t H n => t 0 = .ssl (encs c97 a0) a0.length false ∧ t 2 = .ssl (encs c2 a2) a2.length false ∧ t 3 = .sc (.int .u8 a3) ∧ t 4 = .sc (.int .u32 a4) ∧ t 19 = .sc (.int .i64 x14.1) ∧ t 21 = .sc (.int .i64 x15.1) ∧ t 22 = .sc (.int .i64 x15.2) ∧ t 104 = .sc (.bool (((x5.2 == 0) && (x8.2 == 0)) && (x14.2 == 0)))) (fun J hJ => ?_) ?_
      · simp [-splice, f0, f2, f3, f4, f19, f21, f22, f103]
        exact hJ _ _ _ ⟨by simp [f0], by simp [f2], by simp [f3], by simp [f4], by simp [f19], by simp [f21], by simp [f22], by simp [-splice, f0, f2, f3, f4, f19, f21, f22, f103]⟩
      clear f0 f2 f3 f4 f19 f21 f22 f103
      rintro t H n ⟨f0, f2, f3, f4, f19, f21, f22, f104⟩
      refine Stk.jo 3 (fun t H n => t 0 = .ssl (encs c97 a0) a0.length false ∧ t 2 = .ssl (encs c2 a2) a2.length false ∧ t 3 = .sc (.int .u8 a3) ∧ t 4 = .sc (.int .u32 a4) ∧ t 19 = .sc (.int .i64 x14.1) ∧ t 21 = .sc (.int .i64 x15.1) ∧ t 107 = .sc (.bool ((((x5.2 == 0) && (x8.2 == 0)) && (x14.2 == 0)) && (x15.2 == 0)))) (fun J7 hJ7 => ?_) ?_
      · rcases Bool.eq_false_or_eq_true (((x5.2 == 0) && (x8.2 == 0)) && (x14.2 == 0)) with hb7 | hb7
        · rw [hb7] at f104
          refine Stk.run 3 (fun t H n => t 0 = .ssl (encs c97 a0) a0.length false ∧ t 2 = .ssl (encs c2 a2) a2.length false ∧ t 3 = .sc (.int .u8 a3) ∧ t 4 = .sc (.int .u32 a4) ∧ t 19 = .sc (.int .i64 x14.1) ∧ t 21 = .sc (.int .i64 x15.1) ∧ t 107 = .sc (.bool (x15.2 == 0))) (fun J hJ => ?_) ?_
          · simp [-splice, f0, f2, f3, f4, f19, f21, f22, f104]
            exact hJ _ _ _ ⟨by simp [f0], by simp [f2], by simp [f3], by simp [f4], by simp [f19], by simp [f21], by simp [-splice, f0, f2, f3, f4, f19, f21, f22, f104]⟩
          clear f0 f2 f3 f4 f19 f21 f22 f104
          rintro t H n ⟨f0, f2, f3, f4, f19, f21, f107⟩
          refine Stk.on ?_
          exact Stk.ln 0 (by decide) (hJ7 _ _ _ ⟨f0, f2, f3, f4, f19, f21, f107.trans (congrArg (fun q => AV.sc (.bool q)) (by rw [hb7]; rfl))⟩)
        · rw [hb7] at f104
          refine Stk.run 3 (fun t H n => t 0 = .ssl (encs c97 a0) a0.length false ∧ t 2 = .ssl (encs c2 a2) a2.length false ∧ t 3 = .sc (.int .u8 a3) ∧ t 4 = .sc (.int .u32 a4) ∧ t 19 = .sc (.int .i64 x14.1) ∧ t 21 = .sc (.int .i64 x15.1) ∧ t 107 = .sc (.bool false)) (fun J hJ => ?_) ?_
          · simp [-splice, f0, f2, f3, f4, f19, f21, f22, f104]
            exact hJ _ _ _ ⟨by simp [f0], by simp [f2], by simp [f3], by simp [f4], by simp [f19], by simp [f21], by simp [-splice, f0, f2, f3, f4, f19, f21, f22, f104]⟩
          clear f0 f2 f3 f4 f19 f21 f22 f104
          rintro t H n ⟨f0, f2, f3, f4, f19, f21, f107⟩
          refine Stk.on ?_
          exact Stk.ln 0 (by decide) (hJ7 _ _ _ ⟨f0, f2, f3, f4, f19, f21, f107.trans (congrArg (fun q => AV.sc (.bool q)) (by rw [hb7]; rfl))⟩)
      clear f0 f2 f3 f4 f19 f21 f22 f104
      rintro t H n ⟨f0, f2, f3, f4, f19, f21, f107⟩
      refine Stk.run 1 (fun t H n => t 0 = .ssl (encs c97 a0) a0.length false ∧ t 2 = .ssl (encs c2 a2) a2.length false ∧ t 3 = .sc (.int .u8 a3) ∧ t 4 = .sc (.int .u32 a4) ∧ t 19 = .sc (.int .i64 x14.1) ∧ t 21 = .sc (.int .i64 x15.1) ∧ t 108 = .sc (.bool ((((x5.2 == 0) && (x8.2 == 0)) && (x14.2 == 0)) && (x15.2 == 0)))) (fun J hJ => ?_) ?_
      · simp [-splice, f0, f2, f3, f4, f19, f21, f107]
        exact hJ _ _ _ ⟨by simp [f0], by simp [f2], by simp [f3], by simp [f4], by simp [f19], by simp [f21], by simp [-splice, f0, f2, f3, f4, f19, f21, f107]⟩
      clear f0 f2 f3 f4 f19 f21 f107
      rintro t H n ⟨f0, f2, f3, f4, f19, f21, f108⟩
      refine Stk.jo 4 (fun t H n => t 0 = .ssl (encs c97 a0) a0.length false ∧ t 2 = .ssl (encs c2 a2) a2.length false ∧ t 3 = .sc (.int .u8 a3) ∧ t 4 = .sc (.int .u32 a4) ∧ t 112 = .sc (.bool (((((x5.2 == 0) && (x8.2 == 0)) && (x14.2 == 0)) && (x15.2 == 0)) && (decide (x15.1 < x14.1))))) (fun J8 hJ8 => ?_) ?_
      · rcases Bool.eq_false_or_eq_true ((((x5.2 == 0) && (x8.2 == 0)) && (x14.2 == 0)) && (x15.2 == 0)) with hb8 | hb8
        · rw [hb8] at f108
          refine Stk.run 4 (fun t H n => t 0 = .ssl (encs c97 a0) a0.length false ∧ t 2 = .ssl (encs c2 a2) a2.length false ∧ t 3 = .sc (.int .u8 a3) ∧ t 4 = .sc (.int .u32 a4) ∧ t 112 = .sc (.bool (decide (x15.1 < x14.1)))) (fun J hJ => ?_) ?_
          · simp [-splice, f0, f2, f3, f4, f19, f21, f108]
            exact hJ _ _ _ ⟨by simp [f0], by simp [f2], by simp [f3], by simp [f4], by simp [-splice, f0, f2, f3, f4, f19, f21, f108]⟩
          clear f0 f2 f3 f4 f19 f21 f108
          rintro t H n ⟨f0, f2, f3, f4, f112⟩
          refine Stk.on ?_
          exact Stk.ln 0 (by decide) (hJ8 _ _ _ ⟨f0, f2, f3, f4, f112.trans (congrArg (fun q => AV.sc (.bool q)) (by rw [hb8]; rfl))⟩)
        · rw [hb8] at f108
          refine Stk.run 4 (fun t H n => t 0 = .ssl (encs c97 a0) a0.length false ∧ t 2 = .ssl (encs c2 a2) a2.length false ∧ t 3 = .sc (.int .u8 a3) ∧ t 4 = .sc (.int .u32 a4) ∧ t 112 = .sc (.bool false)) (fun J hJ => ?_) ?_
          · simp [-splice, f0, f2, f3, f4, f19, f21, f108]
            exact hJ _ _ _ ⟨by simp [f0], by simp [f2], by simp [f3], by simp [f4], by simp [-splice, f0, f2, f3, f4, f19, f21, f108]⟩
          clear f0 f2 f3 f4 f19 f21 f108
          rintro t H n ⟨f0, f2, f3, f4, f112⟩
          refine Stk.on ?_
          exact Stk.ln 0 (by decide) (hJ8 _ _ _ ⟨f0, f2, f3, f4, f112.trans (congrArg (fun q => AV.sc (.bool q)) (by rw [hb8]; rfl))⟩)
      clear f0 f2 f3 f4 f19 f21 f108
      rintro t H n ⟨f0, f2, f3, f4, f112⟩
      refine Stk.on ?_
      refine Stk.cond (((((x5.2 == 0) && (x8.2 == 0)) && (x14.2 == 0)) && (x15.2 == 0)) && (decide (x15.1 < x14.1))) (by exact f112) (fun hb16 => ?_) (fun hb16 => ?_)
      · have h := cT hb16 h
        refine Stk.sq ?_
        refine Stk.rg ?_
        refine Stk.run 1 (fun t H n => t 10 = .sc (.bool false)) (fun J hJ => ?_) ?_
        · simp [-splice, f0, f2, f3, f4, f112]
          exact hJ _ _ _ (by simp [-splice, f0, f2, f3, f4, f112])
        clear f0 f2 f3 f4 f112
        rintro t H n f10
        refine Stk.on ?_
        refine Stk.rt ?_
        have hq := Option.some.inj h; subst hq
        exact (hr _ _ _ (.sc (.bool false)) ([]) (by simp [f10]) (.inr (.inr (.free (rfl))))).1
      · have h := cF hb16 h
        refine Stk.sk ?_
        refine Stk.sq ?_
        refine Stk.rg ?_
        refine Stk.om (mop_buildN (c := c2) (z := 1) T.t45 rfl T.t2 rfl (by decide) rfl (by decide) [] rfl (.nil)) (by simp [f0, f2, f3, f4, f112]) rfl (fun t' ht' => ?_)
        refine Stk.gen (fun t H n => ∃ b17, t 0 = .ssl (encs c97 a0) a0.length false ∧ t 2 = .ssl (encs c2 a2) a2.length false ∧ t 3 = .sc (.int .u8 a3) ∧ t 4 = .sc (.int .u32 a4) ∧ t 113 = .osl b17 0 ([] : List Int).length (some ([] : List Int).length) ∧ H b17 = some (.cells (encs c2 ([] : List Int)) 2) ∧ b17 < n) ⟨n, by simp [ht', f0], by simp [ht', f2], by simp [ht', f3], by simp [ht', f4], by simp [ht'], upd_same _ _ _, Nat.lt_succ_self _⟩ ?_
        clear f0 f2 f3 f4 f112 ht' t'
        rintro t H n ⟨b17, f0, f2, f3, f4, f113, b_b17, l_b17⟩
        refine Stk.run 1 (fun t H n => t 0 = .ssl (encs c97 a0) a0.length false ∧ t 2 = .ssl (encs c2 a2) a2.length false ∧ t 3 = .sc (.int .u8 a3) ∧ t 4 = .sc (.int .u32 a4) ∧ t 113 = .osl b17 0 ([] : List Int).length (some ([] : List Int).length) ∧ t 114 = .ssl (encs c2 a2) a2.length false ∧ H b17 = some (.cells (encs c2 ([] : List Int)) 2) ∧ b17 < n) (fun J hJ => ?_) ?_
        · simp [-splice, f0, f2, f3, f4, f113, b_b17]
          exact hJ _ _ _ ⟨by simp [f0], by simp [f2], by simp [f3], by simp [f4], by simp [f113], by simp [-splice, f0, f2, f3, f4, f113, b_b17], b_b17, l_b17⟩
        clear f0 f2 f3 f4 f113 b_b17 l_b17
        rintro t H n ⟨f0, f2, f3, f4, f113, f114, b_b17, l_b17⟩
        obtain ⟨x18, hx18, h⟩ := bnd h
        obtain ⟨r1x18, r2x18, r3x18⟩ := appM_ok hx18
        obtain ⟨o19, co19, H9, n9, e9, w9, le9, fr9, kp9⟩ := append_ownC (e := c2) (z := 1) (st := 45) T.t45 rfl T.t2 rfl (by decide) rfl (by decide) (ownC_row b_b17) (fun i hi => by cases hi; exact l_b17) (y := .ssl (encs c2 a2) a2.length false) a2 (elems_ssl) (all_encs ok2 _) r1x18 r2x18
        rw [r3x18] at e9 w9
        refine Stk.om ((mop_append T.t45 rfl).trans (by rw [show ev t (.tmp 113) = t 113 from rfl, f113]; rw [show ev t (.tmp 114) = t 114 from rfl, f114];  exact e9)) (by simp [f0, f2, f3, f4, f113, f114]) rfl (fun t' ht' => ?_)
        refine Stk.gen (fun t H n => t 0 = .ssl (encs c97 a0) a0.length false ∧ t 2 = .ssl (encs c2 a2) a2.length false ∧ t 3 = .sc (.int .u8 a3) ∧ t 4 = .sc (.int .u32 a4) ∧ t 115 = slc o19 x18.length co19 ∧ OwnC H 2 1 c2 o19 co19 x18 ∧ (∀ i, o19 = some i → i < n)) ⟨by simp [ht', f0], by simp [ht', f2], by simp [ht', f3], by simp [ht', f4], by simp [ht'], w9, fun i hi => (fr9 i hi).2⟩ ?_
        clear f0 f2 f3 f4 f113 f114 b_b17 l_b17 ht' t'
        rintro t H n ⟨f0, f2, f3, f4, f115, b_o19, l_o19⟩
        refine Stk.run 1 (fun t H n => t 0 = .ssl (encs c97 a0) a0.length false ∧ t 2 = .ssl (encs c2 a2) a2.length false ∧ t 3 = .sc (.int .u8 a3) ∧ t 4 = .sc (.int .u32 a4) ∧ t 23 = slc o19 x18.length co19 ∧ OwnC H 2 1 c2 o19 co19 x18 ∧ (∀ i, o19 = some i → i < n)) (fun J hJ => ?_) ?_
        · simp [-splice, f0, f2, f3, f4, f115]
          exact hJ _ _ _ ⟨by simp [f0], by simp [f2], by simp [f3], by simp [f4], by simp [-splice, f0, f2, f3, f4, f115], b_o19, l_o19⟩
        clear f0 f2 f3 f4 f115 b_o19 l_o19
        rintro t H n ⟨f0, f2, f3, f4, f23, b_o19, l_o19⟩
        refine Stk.on ?_
        refine Stk.sq ?_
        refine Stk.sq ?_
        refine Stk.rg ?_
        refine Stk.run 1 (fun t H n => t 0 = .ssl (encs c97 a0) a0.length false ∧ t 2 = .ssl (encs c2 a2) a2.length false ∧ t 3 = .sc (.int .u8 a3) ∧ t 4 = .sc (.int .u32 a4) ∧ t 23 = slc o19 x18.length co19 ∧ t 116 = slc o19 x18.length co19 ∧ OwnC H 2 1 c2 o19 co19 x18 ∧ (∀ i, o19 = some i → i < n)) (fun J hJ => ?_) ?_
        · simp [-splice, f0, f2, f3, f4, f23]
          exact hJ _ _ _ ⟨by simp [f0], by simp [f2], by simp [f3], by simp [f4], by simp [f23], by simp [-splice, f0, f2, f3, f4, f23], b_o19, l_o19⟩
        clear f0 f2 f3 f4 f23 b_o19 l_o19
        rintro t H n ⟨f0, f2, f3, f4, f23, f116, b_o19, l_o19⟩
        refine Stk.ov (vop_len T.t45 rfl f116 b_o19) (by simp [f0, f2, f3, f4, f23, f116]) rfl (fun t' ht' => ?_)
        refine Stk.gen (fun t H n => t 0 = .ssl (encs c97 a0) a0.length false ∧ t 2 = .ssl (encs c2 a2) a2.length false ∧ t 3 = .sc (.int .u8 a3) ∧ t 4 = .sc (.int .u32 a4) ∧ t 23 = slc o19 x18.length co19 ∧ t 117 = .sc (.int .i64 (x18.length : Int)) ∧ OwnC H 2 1 c2 o19 co19 x18 ∧ (∀ i, o19 = some i → i < n)) ⟨by simp [ht', f0], by simp [ht', f2], by simp [ht', f3], by simp [ht', f4], by simp [ht', f23], by simp [ht'], b_o19, l_o19⟩ ?_
        clear f0 f2 f3 f4 f23 f116 b_o19 l_o19 ht' t'
        rintro t H n ⟨f0, f2, f3, f4, f23, f117, b_o19, l_o19⟩
        refine Stk.run 2 (fun t H n => t 0 = .ssl (encs c97 a0) a0.length false ∧ t 2 = .ssl (encs c2 a2) a2.length false ∧ t 3 = .sc (.int .u8 a3) ∧ t 4 = .sc (.int .u32 a4) ∧ t 23 = slc o19 x18.length co19 ∧ t 119 = .sc (.bool (decide (0 < (x18.length : Int)))) ∧ OwnC H 2 1 c2 o19 co19 x18 ∧ (∀ i, o19 = some i → i < n)) (fun J hJ => ?_) ?_
        · simp [-splice, f0, f2, f3, f4, f23, f117]
          exact hJ _ _ _ ⟨by simp [f0], by simp [f2], by simp [f3], by simp [f4], by simp [f23], by simp [-splice, f0, f2, f3, f4, f23, f117], b_o19, l_o19⟩
        clear f0 f2 f3 f4 f23 f117 b_o19 l_o19
        rintro t H n ⟨f0, f2, f3, f4, f23, f119, b_o19, l_o19⟩
        obtain ⟨K9, hK9, h⟩ := jnd h
        refine Stk.jo 10 (fun t H n => ∃ o20 : Option Nat, ∃ co20 : Option Nat, ∃ v21 : List Int, ∃ v22 : Bool, K9 v21 v22 = some r ∧ t 0 = .ssl (encs c97 a0) a0.length false ∧ t 2 = .ssl (encs c2 a2) a2.length false ∧ t 3 = .sc (.int .u8 a3) ∧ t 4 = .sc (.int .u32 a4) ∧ t 23 = slc o20 v21.length co20 ∧ t 129 = .sc (.bool v22) ∧ OwnC H 2 1 c2 o20 co20 v21 ∧ (∀ i, o20 = some i → i < n)) (fun J9 hJ9 => ?_) ?_
        · rcases Bool.eq_false_or_eq_true (decide (0 < (x18.length : Int))) with hb9 | hb9
          · rw [hb9] at f119
            replace h := cT hb9 h
            refine Stk.run 4 (fun t H n => t 0 = .ssl (encs c97 a0) a0.length false ∧ t 2 = .ssl (encs c2 a2) a2.length false ∧ t 3 = .sc (.int .u8 a3) ∧ t 4 = .sc (.int .u32 a4) ∧ t 23 = slc o19 x18.length co19 ∧ t 119 = .sc (.bool true) ∧ t 120 = slc o19 x18.length co19 ∧ t 122 = .sc (.int .i64 (IntKind.i64.wrap a3)) ∧ t 123 = slc o19 x18.length co19 ∧ OwnC H 2 1 c2 o19 co19 x18 ∧ (∀ i, o19 = some i → i < n)) (fun J hJ => ?_) ?_
            · simp [-splice, f0, f2, f3, f4, f23, f119]
              exact hJ _ _ _ ⟨by simp [f0], by simp [f2], by simp [f3], by simp [f4], by simp [f23], by simp [f119], by simp [-splice, f0, f2, f3, f4, f23, f119], by simp [-splice, f0, f2, f3, f4, f23, f119], by simp [-splice, f0, f2, f3, f4, f23, f119], b_o19, l_o19⟩
            clear f0 f2 f3 f4 f23 f119 b_o19 l_o19
            rintro t H n ⟨f0, f2, f3, f4, f23, f119, f120, f122, f123, b_o19, l_o19⟩
            refine Stk.ov (vop_len T.t45 rfl f123 b_o19) (by simp [f0, f2, f3, f4, f23, f119, f120, f122, f123]) rfl (fun t' ht' => ?_)
            refine Stk.gen (fun t H n => t 0 = .ssl (encs c97 a0) a0.length false ∧ t 2 = .ssl (encs c2 a2) a2.length false ∧ t 3 = .sc (.int .u8 a3) ∧ t 4 = .sc (.int .u32 a4) ∧ t 23 = slc o19 x18.length co19 ∧ t 119 = .sc (.bool true) ∧ t 120 = slc o19 x18.length co19 ∧ t 122 = .sc (.int .i64 (IntKind.i64.wrap a3)) ∧ t 124 = .sc (.int .i64 (x18.length : Int)) ∧ OwnC H 2 1 c2 o19 co19 x18 ∧ (∀ i, o19 = some i → i < n)) ⟨by simp [ht', f0], by simp [ht', f2], by simp [ht', f3], by simp [ht', f4], by simp [ht', f23], by simp [ht', f119], by simp [ht', f120], by simp [ht', f122], by simp [ht'], b_o19, l_o19⟩ ?_
            clear f0 f2 f3 f4 f23 f119 f120 f122 f123 b_o19 l_o19 ht' t'
            rintro t H n ⟨f0, f2, f3, f4, f23, f119, f120, f122, f124, b_o19, l_o19⟩
            obtain ⟨x23, hx23, h⟩ := bnd h
            obtain ⟨nx23, ex23⟩ := remM_ok hx23
            have mx23 : ¬ x18 = [] := fun e => nx23 (by rw [e]; rfl)
            refine Stk.run 1 (fun t H n => t 0 = .ssl (encs c97 a0) a0.length false ∧ t 2 = .ssl (encs c2 a2) a2.length false ∧ t 3 = .sc (.int .u8 a3) ∧ t 4 = .sc (.int .u32 a4) ∧ t 23 = slc o19 x18.length co19 ∧ t 119 = .sc (.bool true) ∧ t 120 = slc o19 x18.length co19 ∧ t 125 = .sc (.int .i64 x23) ∧ OwnC H 2 1 c2 o19 co19 x18 ∧ (∀ i, o19 = some i → i < n)) (fun J hJ => ?_) ?_
            · simp [-splice, f0, f2, f3, f4, f23, f119, f120, f122, f124, nx23, ex23, mx23]
              exact hJ _ _ _ ⟨by simp [f0], by simp [f2], by simp [f3], by simp [f4], by simp [f23], by simp [f119], by simp [f120], by simp [-splice, f0, f2, f3, f4, f23, f119, f120, f122, f124, nx23, ex23, mx23], b_o19, l_o19⟩
            clear f0 f2 f3 f4 f23 f119 f120 f122 f124 b_o19 l_o19
            rintro t H n ⟨f0, f2, f3, f4, f23, f119, f120, f125, b_o19, l_o19⟩
            obtain ⟨x24, hx24, h⟩ := bnd h
            obtain ⟨i0x24, i1x24, i2x24, _⟩ := idx_ok hx24
            obtain ⟨b25, rfl⟩ := ownC_open b_o19 i2x24
            refine Stk.run 1 (fun t H n => t 0 = .ssl (encs c97 a0) a0.length false ∧ t 2 = .ssl (encs c2 a2) a2.length false ∧ t 3 = .sc (.int .u8 a3) ∧ t 4 = .sc (.int .u32 a4) ∧ t 23 = slc (some b25) x18.length co19 ∧ t 119 = .sc (.bool true) ∧ t 126 = .own b25 (x23.toNat) ∧ OwnC H 2 1 c2 (some b25) co19 x18 ∧ (∀ i, (some b25) = some i → i < n)) (fun J hJ => ?_) ?_
            · simp [-splice, f0, f2, f3, f4, f23, f119, f120, f125, i0x24, i1x24]
              exact hJ _ _ _ ⟨by simp [f0], by simp [f2], by simp [f3], by simp [f4], by simp [-splice, f0, f2, f3, f4, f23, f119, f120, f125, i0x24, i1x24], by simp [f119], by simp [-splice, f0, f2, f3, f4, f23, f119, f120, f125, i0x24, i1x24], b_o19, l_o19⟩
            clear f0 f2 f3 f4 f23 f119 f120 f125 b_o19 l_o19
            rintro t H n ⟨f0, f2, f3, f4, f23, f119, f126, b_o19, l_o19⟩
            obtain ⟨ysx24, hBx24, _⟩ := id b_o19
            have ex24_0_2 : partOf T.T 2 (encs c2 x18 ++ ysx24) (x23.toNat) = some (.sc (.int .i64 x24)) := by
                have e0 := part_elem (e := c2) (z := 1) (T := T.T) (ty := 2) T.t2 (by decide) (by decide) hx24 ysx24 0 (by decide)
                (try simp only [Nat.mul_one, Nat.add_zero] at e0)
                exact e0.trans rfl
            refine Stk.run 3 (fun t H n => t 0 = .ssl (encs c97 a0) a0.length false ∧ t 2 = .ssl (encs c2 a2) a2.length false ∧ t 3 = .sc (.int .u8 a3) ∧ t 4 = .sc (.int .u32 a4) ∧ t 23 = slc (some b25) x18.length co19 ∧ t 129 = .sc (.bool (decide (x24 < 4611686018427387904))) ∧ OwnC H 2 1 c2 (some b25) co19 x18 ∧ (∀ i, (some b25) = some i → i < n)) (fun J hJ => ?_) ?_
            · simp [-splice, f0, f2, f3, f4, f23, f119, f126, hBx24, ex24_0_2]
              exact hJ _ _ _ ⟨by simp [f0], by simp [f2], by simp [f3], by simp [f4], by simp [f23], by simp [-splice, f0, f2, f3, f4, f23, f119, f126, hBx24, ex24_0_2], b_o19, l_o19⟩
            clear f0 f2 f3 f4 f23 f119 f126 b_o19 l_o19
            rintro t H n ⟨f0, f2, f3, f4, f23, f129, b_o19, l_o19⟩
            refine Stk.on ?_
            exact Stk.ln 0 (by decide) (hJ9 _ _ _ ⟨(some b25), co19, x18, (decide (x24 < 4611686018427387904)), h, f0, f2, f3, f4, f23, f129, b_o19, l_o19⟩)
          · rw [hb9] at f119
            replace h := cF hb9 h
            refine Stk.run 10 (fun t H n => t 0 = .ssl (encs c97 a0) a0.length false ∧ t 2 = .ssl (encs c2 a2) a2.length false ∧ t 3 = .sc (.int .u8 a3) ∧ t 4 = .sc (.int .u32 a4) ∧ t 23 = slc o19 x18.length co19 ∧ t 129 = .sc (.bool false) ∧ OwnC H 2 1 c2 o19 co19 x18 ∧ (∀ i, o19 = some i → i < n)) (fun J hJ => ?_) ?_
            · simp [-splice, f0, f2, f3, f4, f23, f119]
              exact hJ _ _ _ ⟨by simp [f0], by simp [f2], by simp [f3], by simp [f4], by simp [f23], by simp [-splice, f0, f2, f3, f4, f23, f119], b_o19, l_o19⟩
            clear f0 f2 f3 f4 f23 f119 b_o19 l_o19
            rintro t H n ⟨f0, f2, f3, f4, f23, f129, b_o19, l_o19⟩
            refine Stk.on ?_
            exact Stk.ln 0 (by decide) (hJ9 _ _ _ ⟨o19, co19, x18, false, h, f0, f2, f3, f4, f23, f129, b_o19, l_o19⟩)
        clear h f0 f2 f3 f4 f23 f119 b_o19 l_o19
        rintro t H n ⟨o20, co20, v21, v22, h, f0, f2, f3, f4, f23, f129, b_o20, l_o20⟩
        subst hK9
        refine Stk.on ?_
        obtain ⟨K10, hK10, h⟩ := jnd h
        refine Stk.jn (fun t H n => ∃ o26 : Option Nat, ∃ co26 : Option Nat, ∃ v27 : List Int, K10 v27 = some r ∧ t 0 = .ssl (encs c97 a0) a0.length false ∧ t 2 = .ssl (encs c2 a2) a2.length false ∧ t 23 = slc o26 v27.length co26 ∧ OwnC H 2 1 c2 o26 co26 v27 ∧ (∀ i, o26 = some i → i < n)) trivial (fun J10 hJ10 => ?_) ?_
        · skip
          refine Stk.cond v22 (by exact f129) (fun hb28 => ?_) (fun hb28 => ?_)
          · have h := cT hb28 h
            refine Stk.rg ?_
            refine Stk.run 4 (fun t H n => t 0 = .ssl (encs c97 a0) a0.length false ∧ t 2 = .ssl (encs c2 a2) a2.length false ∧ t 4 = .sc (.int .u32 a4) ∧ t 23 = slc o20 v21.length co20 ∧ t 130 = slc o20 v21.length co20 ∧ t 132 = .sc (.int .i64 (IntKind.i64.wrap a3)) ∧ t 133 = slc o20 v21.length co20 ∧ OwnC H 2 1 c2 o20 co20 v21 ∧ (∀ i, o20 = some i → i < n)) (fun J hJ => ?_) ?_
            · simp [-splice, f0, f2, f3, f4, f23, f129]
              exact hJ _ _ _ ⟨by simp [f0], by simp [f2], by simp [f4], by simp [f23], by simp [-splice, f0, f2, f3, f4, f23, f129], by simp [-splice, f0, f2, f3, f4, f23, f129], by simp [-splice, f0, f2, f3, f4, f23, f129], b_o20, l_o20⟩
            clear f0 f2 f3 f4 f23 f129 b_o20 l_o20
            rintro t H n ⟨f0, f2, f4, f23, f130, f132, f133, b_o20, l_o20⟩
            refine Stk.ov (vop_len T.t45 rfl f133 b_o20) (by simp [f0, f2, f4, f23, f130, f132, f133]) rfl (fun t' ht' => ?_)
            refine Stk.gen (fun t H n => t 0 = .ssl (encs c97 a0) a0.length false ∧ t 2 = .ssl (encs c2 a2) a2.length false ∧ t 4 = .sc (.int .u32 a4) ∧ t 23 = slc o20 v21.length co20 ∧ t 130 = slc o20 v21.length co20 ∧ t 132 = .sc (.int .i64 (IntKind.i64.wrap a3)) ∧ t 134 = .sc (.int .i64 (v21.length : Int)) ∧ OwnC H 2 1 c2 o20 co20 v21 ∧ (∀ i, o20 = some i → i < n)) ⟨by simp [ht', f0], by simp [ht', f2], by simp [ht', f4], by simp [ht', f23], by simp [ht', f130], by simp [ht', f132], by simp [ht'], b_o20, l_o20⟩ ?_
            clear f0 f2 f4 f23 f130 f132 f133 b_o20 l_o20 ht' t'
            rintro t H n ⟨f0, f2, f4, f23, f130, f132, f134, b_o20, l_o20⟩
            obtain ⟨x29, hx29, h⟩ := bnd h
            obtain ⟨nx29, ex29⟩ := remM_ok hx29
            have mx29 : ¬ v21 = [] := fun e => nx29 (by rw [e]; rfl)
            refine Stk.run 1 (fun t H n => t 0 = .ssl (encs c97 a0) a0.length false ∧ t 2 = .ssl (encs c2 a2) a2.length false ∧ t 4 = .sc (.int .u32 a4) ∧ t 23 = slc o20 v21.length co20 ∧ t 130 = slc o20 v21.length co20 ∧ t 135 = .sc (.int .i64 x29) ∧ OwnC H 2 1 c2 o20 co20 v21 ∧ (∀ i, o20 = some i → i < n)) (fun J hJ => ?_) ?_
            · simp [-splice, f0, f2, f4, f23, f130, f132, f134, nx29, ex29, mx29]
              exact hJ _ _ _ ⟨by simp [f0], by simp [f2], by simp [f4], by simp [f23], by simp [f130], by simp [-splice, f0, f2, f4, f23, f130, f132, f134, nx29, ex29, mx29], b_o20, l_o20⟩
            clear f0 f2 f4 f23 f130 f132 f134 b_o20 l_o20
            rintro t H n ⟨f0, f2, f4, f23, f130, f135, b_o20, l_o20⟩
            obtain ⟨x30, hx30, h⟩ := bnd h
            obtain ⟨i0x30, i1x30, i2x30, _⟩ := idx_ok hx30
            obtain ⟨b31, rfl⟩ := ownC_open b_o20 i2x30
            refine Stk.run 1 (fun t H n => t 0 = .ssl (encs c97 a0) a0.length false ∧ t 2 = .ssl (encs c2 a2) a2.length false ∧ t 4 = .sc (.int .u32 a4) ∧ t 23 = slc (some b31) v21.length co20 ∧ t 130 = slc (some b31) v21.length co20 ∧ t 135 = .sc (.int .i64 x29) ∧ t 136 = .own b31 (x29.toNat) ∧ OwnC H 2 1 c2 (some b31) co20 v21 ∧ (∀ i, (some b31) = some i → i < n)) (fun J hJ => ?_) ?_
            · simp [-splice, f0, f2, f4, f23, f130, f135, i0x30, i1x30]
              exact hJ _ _ _ ⟨by simp [f0], by simp [f2], by simp [f4], by simp [-splice, f0, f2, f4, f23, f130, f135, i0x30, i1x30], by simp [-splice, f0, f2, f4, f23, f130, f135, i0x30, i1x30], by simp [f135], by simp [-splice, f0, f2, f4, f23, f130, f135, i0x30, i1x30], b_o20, l_o20⟩
            clear f0 f2 f4 f23 f130 f135 b_o20 l_o20
            rintro t H n ⟨f0, f2, f4, f23, f130, f135, f136, b_o20, l_o20⟩
            obtain ⟨ysx30, hBx30, _⟩ := id b_o20
            have ex30_0_2 : partOf T.T 2 (encs c2 v21 ++ ysx30) (x29.toNat) = some (.sc (.int .i64 x30)) := by
                have e0 := part_elem (e := c2) (z := 1) (T := T.T) (ty := 2) T.t2 (by decide) (by decide) hx30 ysx30 0 (by decide)
                (try simp only [Nat.mul_one, Nat.add_zero] at e0)
                exact e0.trans rfl
            refine Stk.run 4 (fun t H n => t 0 = .ssl (encs c97 a0) a0.length false ∧ t 2 = .ssl (encs c2 a2) a2.length false ∧ t 23 = slc (some b31) v21.length co20 ∧ t 130 = slc (some b31) v21.length co20 ∧ t 135 = .sc (.int .i64 x29) ∧ t 140 = .sc (.int .i64 (IntKind.i64.wrap (x30 + (IntKind.i64.wrap a4)))) ∧ OwnC H 2 1 c2 (some b31) co20 v21 ∧ (∀ i, (some b31) = some i → i < n)) (fun J hJ => ?_) ?_
            · simp [-splice, f0, f2, f4, f23, f130, f135, f136, hBx30, ex30_0_2]
              exact hJ _ _ _ ⟨by simp [f0], by simp [f2], by simp [f23], by simp [f130], by simp [f135], by simp [-splice, f0, f2, f4, f23, f130, f135, f136, hBx30, ex30_0_2], b_o20, l_o20⟩
            clear f0 f2 f4 f23 f130 f135 f136 b_o20 l_o20
            rintro t H n ⟨f0, f2, f23, f130, f135, f140, b_o20, l_o20⟩
            obtain ⟨x32, hx32, h⟩ := bnd h
            obtain ⟨i0x32, i1x32, i2x32, _⟩ := idx_ok hx32
            refine Stk.run 1 (fun t H n => t 0 = .ssl (encs c97 a0) a0.length false ∧ t 2 = .ssl (encs c2 a2) a2.length false ∧ t 23 = slc (some b31) v21.length co20 ∧ t 140 = .sc (.int .i64 (IntKind.i64.wrap (x30 + (IntKind.i64.wrap a4)))) ∧ t 141 = .own b31 (x29.toNat) ∧ OwnC H 2 1 c2 (some b31) co20 v21 ∧ (∀ i, (some b31) = some i → i < n)) (fun J hJ => ?_) ?_
            · simp [-splice, f0, f2, f23, f130, f135, f140, i0x32, i1x32]
              exact hJ _ _ _ ⟨by simp [f0], by simp [f2], by simp [f23], by simp [f140], by simp [-splice, f0, f2, f23, f130, f135, f140, i0x32, i1x32], b_o20, l_o20⟩
            clear f0 f2 f23 f130 f135 f140 b_o20 l_o20
            rintro t H n ⟨f0, f2, f23, f140, f141, b_o20, l_o20⟩
            obtain ⟨ys, hB, hC⟩ := id b_o20
            have sp : splice (encs c2 v21 ++ ys) (x29.toNat) ([.sc (.int .i64 (IntKind.i64.wrap (x30 + (IntKind.i64.wrap a4))))]) = encs c2 (v21.set x29.toNat (IntKind.i64.wrap (x30 + (IntKind.i64.wrap a4)))) ++ ys := by
              have e0 := splice_elem (e := c2) (z := 1) hx32 ys (IntKind.i64.wrap (x30 + (IntKind.i64.wrap a4)))
              simpa using e0
            refine Stk.om (mop_store (z := 1) rfl f141 hB f140 rfl (by rw [List.length_append, length_encs (e := c2)]; omega) rfl sp) (by simp [f0, f2, f23, f140, f141]) rfl (fun t' ht' => ?_)
            refine Stk.gen (fun t H n => t 0 = .ssl (encs c97 a0) a0.length false ∧ t 2 = .ssl (encs c2 a2) a2.length false ∧ t 23 = slc (some b31) (v21.set x29.toNat (IntKind.i64.wrap (x30 + (IntKind.i64.wrap a4)))).length co20 ∧ OwnC H 2 1 c2 (some b31) co20 (v21.set x29.toNat (IntKind.i64.wrap (x30 + (IntKind.i64.wrap a4)))) ∧ (∀ i, (some b31) = some i → i < n)) ⟨by simp [ht', f0], by simp [ht', f2], by simp [-splice, ht', f0, f2, f23, f140, f141], ⟨ys, upd_same _ _ _, fun k hk => by have := hC k hk; simpa [length_encs] using this⟩, l_o20⟩ ?_
            clear f0 f2 f23 f140 f141 b_o20 l_o20 sp hB hC ht' t'
            rintro t H n ⟨f0, f2, f23, b_o20, l_o20⟩
            refine Stk.on ?_
            exact Stk.ln 0 (by decide) (hJ10 _ _ _ ⟨(some b31), co20, (v21.set x29.toNat (IntKind.i64.wrap (x30 + (IntKind.i64.wrap a4)))), h, f0, f2, f23, b_o20, l_o20⟩)
          · have h := cF hb28 h
            refine Stk.sk ?_
            exact Stk.ln 0 (by decide) (hJ10 _ _ _ ⟨o20, co20, v21, h, f0, f2, f23, b_o20, l_o20⟩)
        clear h f0 f2 f3 f4 f23 f129 b_o20 l_o20
        rintro t H n ⟨o26, co26, v27, h, f0, f2, f23, b_o26, l_o26⟩
        subst hK10
        refine Stk.sq ?_
        refine Stk.rg ?_
        refine Stk.run 2 (fun t H n => t 0 = .ssl (encs c97 a0) a0.length false ∧ t 23 = slc o26 v27.length co26 ∧ t 143 = .ssl (encs c97 a0) a0.length false ∧ t 144 = .ssl (encs c2 a2) a2.length false ∧ OwnC H 2 1 c2 o26 co26 v27 ∧ (∀ i, o26 = some i → i < n)) (fun J hJ => ?_) ?_
        · simp [-splice, f0, f2, f23]
          exact hJ _ _ _ ⟨by simp [f0], by simp [f23], by simp [-splice, f0, f2, f23], by simp [-splice, f0, f2, f23], b_o26, l_o26⟩
        clear f0 f2 f23 b_o26 l_o26
        rintro t H n ⟨f0, f23, f143, f144, b_o26, l_o26⟩
        obtain ⟨x33, hx33, h⟩ := bnd h
        refine Stk.cv (g := 25) (args := [.ssl (encs c97 a0) a0.length false, .ssl (encs c2 a2) a2.length false]) (args' := [.ssl (encs c97 a0) a0.length false, .ssl (encs c2 a2) a2.length false]) (v := .tup [.sc (.int .i64 x33.1), .sc (.int .i64 x33.2)]) [] (ok_poly_At F _ _ _ hx33) (by simp [f0, f23, f143, f144]) rfl rfl (by simp [f0, f23, f143, f144]) (.cons (.free (freeL_encs fr97 _)) (.cons (.free (freeL_encs fr2 _)) (.nil))) (.inl ⟨rfl, by simp [free, freeL]⟩) (fun t' ht' => ?_)
        refine Stk.gen (fun t H n => t 0 = .ssl (encs c97 a0) a0.length false ∧ t 23 = slc o26 v27.length co26 ∧ t 145 = .tup [.sc (.int .i64 x33.1), .sc (.int .i64 x33.2)] ∧ OwnC H 2 1 c2 o26 co26 v27 ∧ (∀ i, o26 = some i → i < n)) ⟨by simp [ht', f0], by simp [ht', f23], by simp [ht'], b_o26, l_o26⟩ ?_
        clear f0 f23 f143 f144 b_o26 l_o26 ht' t'
        rintro t H n ⟨f0, f23, f145, b_o26, l_o26⟩
        refine Stk.run 5 (fun t H n => t 0 = .ssl (encs c97 a0) a0.length false ∧ t 23 = slc o26 v27.length co26 ∧ t 24 = .sc (.int .i64 x33.1) ∧ t 25 = .sc (.int .i64 x33.2) ∧ OwnC H 2 1 c2 o26 co26 v27 ∧ (∀ i, o26 = some i → i < n)) (fun J hJ => ?_) ?_
        · simp [-splice, f0, f23, f145]
          exact hJ _ _ _ ⟨by simp [f0], by simp [f23], by simp [-splice, f0, f23, f145], by simp [-splice, f0, f23, f145], b_o26, l_o26⟩
        clear f0 f23 f145 b_o26 l_o26
        rintro t H n ⟨f0, f23, f24, f25, b_o26, l_o26⟩
        refine Stk.on ?_
        refine Stk.sq ?_
        refine Stk.rg ?_
        refine Stk.run 2 (fun t H n => t 24 = .sc (.int .i64 x33.1) ∧ t 25 = .sc (.int .i64 x33.2) ∧ t 149 = .ssl (encs c97 a0) a0.length false ∧ t 150 = slc o26 v27.length co26 ∧ OwnC H 2 1 c2 o26 co26 v27 ∧ (∀ i, o26 = some i → i < n)) (fun J hJ => ?_) ?_
        · simp [-splice, f0, f23, f24, f25]
          exact hJ _ _ _ ⟨by simp [f24], by simp [f25], by simp [-splice, f0, f23, f24, f25], by simp [-splice, f0, f23, f24, f25], b_o26, l_o26⟩
        clear f0 f23 f24 f25 b_o26 l_o26
        rintro t H n ⟨f24, f25, f149, f150, b_o26, l_o26⟩
        obtain ⟨x34, hx34, h⟩ := bnd h
        refine Stk.cv (g := 25) (args := [.ssl (encs c97 a0) a0.length false, slc o26 v27.length co26]) (args' := [.ssl (encs c97 a0) a0.length false, .ssl (encs c2 v27) v27.length false]) (v := .tup [.sc (.int .i64 x34.1), .sc (.int .i64 x34.2)]) o26.toList (ok_poly_At F _ _ _ hx34) (by simp [f24, f25, f149, f150]) rfl rfl (by simp [f24, f25, f149, f150]) (.cons (.free (freeL_encs fr97 _)) (.cons (view_ownC fr2 b_o26 (fun i hi => by simp [hi])) (.nil))) (.inr rfl) (fun t' ht' => ?_)
        refine Stk.gen (fun t H n => t 24 = .sc (.int .i64 x33.1) ∧ t 25 = .sc (.int .i64 x33.2) ∧ t 151 = .tup [.sc (.int .i64 x34.1), .sc (.int .i64 x34.2)]) ⟨by simp [ht', f24], by simp [ht', f25], by simp [ht']⟩ ?_
        clear f24 f25 f149 f150 b_o26 l_o26 ht' t'
        rintro t H n ⟨f24, f25, f151⟩
        refine Stk.run 5 (fun t H n => t 24 = .sc (.int .i64 x33.1) ∧ t 25 = .sc (.int .i64 x33.2) ∧ t 26 = .sc (.int .i64 x34.1) ∧ t 27 = .sc (.int .i64 x34.2)) (fun J hJ => ?_) ?_
        · simp [-splice, f24, f25, f151]
          exact hJ _ _ _ ⟨by simp [f24], by simp [f25], by simp [-splice, f24, f25, f151], by simp [-splice, f24, f25, f151]⟩
        clear f24 f25 f151
        rintro t H n ⟨f24, f25, f26, f27⟩
        refine Stk.on ?_
        refine Stk.sq ?_
        refine Stk.rg ?_
        refine Stk.run 3 (fun t H n => t 24 = .sc (.int .i64 x33.1) ∧ t 25 = .sc (.int .i64 x33.2) ∧ t 26 = .sc (.int .i64 x34.1) ∧ t 156 = .sc (.bool (x34.2 != 0))) (fun J hJ => ?_) ?_
        · simp [-splice, f24, f25, f26, f27]
          exact hJ _ _ _ ⟨by simp [f24], by simp [f25], by simp [f26], by simp [-splice, f24, f25, f26, f27]⟩
        clear f24 f25 f26 f27
        rintro t H n ⟨f24, f25, f26, f156⟩
        refine Stk.jo 8 (fun t H n => t 164 = .sc (.bool ((x34.2 != 0) || ((x33.2 == 0) && (decide (x33.1 ≤ x34.1)))))) (fun J11 hJ11 => ?_) ?_
        · rcases Bool.eq_false_or_eq_true (x34.2 != 0) with hb11 | hb11
          · rw [hb11] at f156
            refine Stk.run 8 (fun t H n => t 164 = .sc (.bool true)) (fun J hJ => ?_) ?_
            · simp [-splice, f24, f25, f26, f156]
              exact hJ _ _ _ (by simp [-splice, f24, f25, f26, f156])
            clear f24 f25 f26 f156
            rintro t H n f164
            refine Stk.on ?_
            exact Stk.ln 0 (by decide) (hJ11 _ _ _ (f164.trans (congrArg (fun q => AV.sc (.bool q)) (by rw [hb11]; rfl))))
          · rw [hb11] at f156
            refine Stk.run 3 (fun t H n => t 24 = .sc (.int .i64 x33.1) ∧ t 26 = .sc (.int .i64 x34.1) ∧ t 156 = .sc (.bool false) ∧ t 159 = .sc (.bool (x33.2 == 0))) (fun J hJ => ?_) ?_
            · simp [-splice, f24, f25, f26, f156]
              exact hJ _ _ _ ⟨by simp [f24], by simp [f26], by simp [f156], by simp [-splice, f24, f25, f26, f156]⟩
            clear f24 f25 f26 f156
            rintro t H n ⟨f24, f26, f156, f159⟩
            refine Stk.jo 4 (fun t H n => t 156 = .sc (.bool false) ∧ t 163 = .sc (.bool ((x33.2 == 0) && (decide (x33.1 ≤ x34.1))))) (fun J12 hJ12 => ?_) ?_
            · rcases Bool.eq_false_or_eq_true (x33.2 == 0) with hb12 | hb12
              · rw [hb12] at f159
                refine Stk.run 4 (fun t H n => t 156 = .sc (.bool false) ∧ t 163 = .sc (.bool (decide (x33.1 ≤ x34.1)))) (fun J hJ => ?_) ?_
                · simp [-splice, f24, f26, f156, f159]
                  exact hJ _ _ _ ⟨by simp [f156], by simp [-splice, f24, f26, f156, f159]⟩
                clear f24 f26 f156 f159
                rintro t H n ⟨f156, f163⟩
                refine Stk.on ?_
                exact Stk.ln 0 (by decide) (hJ12 _ _ _ ⟨f156, f163.trans (congrArg (fun q => AV.sc (.bool q)) (by rw [hb12]; rfl))⟩)
              · rw [hb12] at f159
                refine Stk.run 4 (fun t H n => t 156 = .sc (.bool false) ∧ t 163 = .sc (.bool false)) (fun J hJ => ?_) ?_
                · simp [-splice, f24, f26, f156, f159]
                  exact hJ _ _ _ ⟨by simp [f156], by simp [-splice, f24, f26, f156, f159]⟩
                clear f24 f26 f156 f159
                rintro t H n ⟨f156, f163⟩
                refine Stk.on ?_
                exact Stk.ln 0 (by decide) (hJ12 _ _ _ ⟨f156, f163.trans (congrArg (fun q => AV.sc (.bool q)) (by rw [hb12]; rfl))⟩)
            clear f24 f26 f156 f159
            rintro t H n ⟨f156, f163⟩
            refine Stk.run 1 (fun t H n => t 164 = .sc (.bool ((x33.2 == 0) && (decide (x33.1 ≤ x34.1))))) (fun J hJ => ?_) ?_
            · simp [-splice, f156, f163]
              exact hJ _ _ _ (by simp [-splice, f156, f163])
            clear f156 f163
            rintro t H n f164
            refine Stk.on ?_
            exact Stk.ln 0 (by decide) (hJ11 _ _ _ (f164.trans (congrArg (fun q => AV.sc (.bool q)) (by rw [hb11]; rfl))))
        clear f24 f25 f26 f156
        rintro t H n f164
        refine Stk.run 1 (fun t H n => t 165 = .sc (.bool ((x34.2 != 0) || ((x33.2 == 0) && (decide (x33.1 ≤ x34.1)))))) (fun J hJ => ?_) ?_
        · simp [-splice, f164]
          exact hJ _ _ _ (by simp [-splice, f164])
        clear f164
        rintro t H n f165
        obtain ⟨K13, hK13, h⟩ := jnd h
        refine Stk.jo 2 (fun t H n => ∃ v35 : Bool, K13 v35 = some r ∧ t 167 = .sc (.bool v35)) (fun J13 hJ13 => ?_) ?_
        · rcases Bool.eq_false_or_eq_true ((x34.2 != 0) || ((x33.2 == 0) && (decide (x33.1 ≤ x34.1)))) with hb13 | hb13
          · rw [hb13] at f165
            replace h := cT hb13 h
            obtain ⟨x36, hx36, h⟩ := bnd h
            refine Stk.cv (g := 19) (args := []) (args' := []) (v := .sc (.bool x36)) [] (ok_L13_awake F  _ hx36) (by simp [f165]) rfl rfl (by simp [f165]) (.nil) (.inl ⟨rfl, rfl⟩) (fun t' ht' => ?_)
            refine Stk.gen (fun t H n => t 165 = .sc (.bool true) ∧ t 166 = .sc (.bool x36)) ⟨by simp [ht', f165], by simp [ht']⟩ ?_
            clear f165 ht' t'
            rintro t H n ⟨f165, f166⟩
            refine Stk.run 1 (fun t H n => t 167 = .sc (.bool x36)) (fun J hJ => ?_) ?_
            · simp [-splice, f165, f166]
              exact hJ _ _ _ (by simp [-splice, f165, f166])
            clear f165 f166
            rintro t H n f167
            refine Stk.on ?_
            exact Stk.ln 0 (by decide) (hJ13 _ _ _ ⟨x36, h, f167⟩)
          · rw [hb13] at f165
            replace h := cF hb13 h
            refine Stk.run 2 (fun t H n => t 167 = .sc (.bool false)) (fun J hJ => ?_) ?_
            · simp [-splice, f165]
              exact hJ _ _ _ (by simp [-splice, f165])
            clear f165
            rintro t H n f167
            refine Stk.on ?_
            exact Stk.ln 0 (by decide) (hJ13 _ _ _ ⟨false, h, f167⟩)
        clear h f165
        rintro t H n ⟨v35, h, f167⟩
        subst hK13
        refine Stk.run 1 (fun t H n => t 10 = .sc (.bool v35)) (fun J hJ => ?_) ?_
        · simp [-splice, f167]
          exact hJ _ _ _ (by simp [-splice, f167])
        clear f167
        rintro t H n f10
        refine Stk.on ?_
        refine Stk.rt ?_
        have hq := Option.some.inj h; subst hq
        exact (hr _ _ _ (.sc (.bool v35)) ([]) (by simp [f10]) (.inr (.inr (.free (rfl))))).1
end Go.Proofs.Ytfbkgjmpadknfaa.M
