/-
  The functions come to them.
-/
import Derived.Test.YtfbkgjmpadknfaaGM
import Derived.Test.YtfbkgjmpadknfaaGW3
import Derived.Test.YtfbkgjmpadknfaaGW4
import Derived.Test.YtfbkgjmpadknfaaGW8
namespace Go.Proofs.Ytfbkgjmpadknfaa.M
open Go.Proofs.YtfbkgjmpadknfaaW.Ah Go.Proofs.Ytfbkgjmpadknfaa
set_option linter.unusedVariables false
set_option linter.unusedSimpArgs false
set_option maxRecDepth 8000
attribute [local simp] T.t2 T.t3 T.t4 T.t5 T.t23 T.t37 T.t39 T.t45 T.t50 List.range List.range.loop
attribute [-simp] appendAV fillAV
theorem ok_L13_PolyPuts (F : Nat) (a0 : (List api_Term)) (a1 : (List (List api_Term))) (a2 : (List Int)) (r : Bool) (h : L13_PolyPuts F a0 a1 a2 = some r) : RunF Try.prog T.T 6 [.ssl (encs c97 a0) a0.length false, .ssl (encs c37 a1) a1.length false, .ssl (encs c5 a2) a2.length false] (.sc (.bool r)) := by
  rw [L13_PolyPuts] at h
  refine RunF.z Try.func6 rfl rfl rfl rfl rfl (fun C hr => ?_)
  refine Stk.gen (fun t H n => t 0 = .ssl (encs c97 a0) a0.length false ∧ t 1 = .ssl (encs c37 a1) a1.length false ∧ t 2 = .ssl (encs c5 a2) a2.length false) ⟨by simp, by simp, by simp⟩ ?_
  rintro t H n ⟨f0, f1, f2⟩
  refine Stk.sq ?_
  refine Stk.rg ?_
  refine Stk.run 1 (fun t H n => t 0 = .ssl (encs c97 a0) a0.length false ∧ t 1 = .ssl (encs c37 a1) a1.length false ∧ t 2 = .ssl (encs c5 a2) a2.length false) (fun J hJ => ?_) ?_
  · simp [-splice, f0, f1, f2]
    exact hJ _ _ _ ⟨by simp [f0], by simp [f1], by simp [f2]⟩
  clear f0 f1 f2
  rintro t H n ⟨f0, f1, f2⟩
  refine Stk.on ?_
  refine Stk.sq ?_
  refine Stk.sq ?_
  refine Stk.rg ?_
  refine Stk.run 1 (fun t H n => t 0 = .ssl (encs c97 a0) a0.length false ∧ t 1 = .ssl (encs c37 a1) a1.length false ∧ t 2 = .ssl (encs c5 a2) a2.length false ∧ t 20 = .ssl (encs c97 a0) a0.length false) (fun J hJ => ?_) ?_
  · simp [-splice, f0, f1, f2]
    exact hJ _ _ _ ⟨by simp [f0], by simp [f1], by simp [f2], by simp [-splice, f0, f1, f2]⟩
  clear f0 f1 f2
  rintro t H n ⟨f0, f1, f2, f20⟩
  refine Stk.om (mop_buildN (c := c37) (z := 1) T.t39 rfl T.t37 rfl (by decide) rfl (by decide) [a0] rfl (.cons f20 rfl rfl rfl rfl (by simp [length_encs]) (splice_next (c := c37) [] _ a0 rfl (by simp)) (.nil))) (by simp [f0, f1, f2, f20]) rfl (fun t' ht' => ?_)
  refine Stk.gen (fun t H n => ∃ b1, t 0 = .ssl (encs c97 a0) a0.length false ∧ t 1 = .ssl (encs c37 a1) a1.length false ∧ t 2 = .ssl (encs c5 a2) a2.length false ∧ t 21 = .osl b1 0 ([a0] : List (List api_Term)).length (some ([a0] : List (List api_Term)).length) ∧ H b1 = some (.cells (encs c37 ([a0] : List (List api_Term))) 37) ∧ b1 < n) ⟨n, by simp [ht', f0], by simp [ht', f1], by simp [ht', f2], by simp [ht'], upd_same _ _ _, Nat.lt_succ_self _⟩ ?_
  clear f0 f1 f2 f20 ht' t'
  rintro t H n ⟨b1, f0, f1, f2, f21, b_b1, l_b1⟩
  obtain ⟨x2, hx2, h⟩ := bnd h
  refine Stk.cv (g := 18) (args := [.osl b1 0 ([a0] : List (List api_Term)).length (some ([a0] : List (List api_Term)).length)]) (args' := [.ssl (encs c37 ([a0] : List (List api_Term))) ([a0] : List (List api_Term)).length false]) (v := .sc (.bool x2)) [b1] (ok_L13_few F _ _ hx2) (by simp [f0, f1, f2, f21]) rfl rfl (by simp [f0, f1, f2, f21]) (.cons (view_row fr37 b_b1 (by simp) _) (.nil)) (.inr rfl) (fun t' ht' => ?_)
  refine Stk.gen (fun t H n => t 0 = .ssl (encs c97 a0) a0.length false ∧ t 1 = .ssl (encs c37 a1) a1.length false ∧ t 2 = .ssl (encs c5 a2) a2.length false ∧ t 22 = .sc (.bool x2)) ⟨by simp [ht', f0], by simp [ht', f1], by simp [ht', f2], by simp [ht']⟩ ?_
  clear f0 f1 f2 f21 b_b1 l_b1 ht' t'
  rintro t H n ⟨f0, f1, f2, f22⟩
  refine Stk.run 2 (fun t H n => t 0 = .ssl (encs c97 a0) a0.length false ∧ t 1 = .ssl (encs c37 a1) a1.length false ∧ t 2 = .ssl (encs c5 a2) a2.length false ∧ t 24 = .sc (.bool (!x2))) (fun J hJ => ?_) ?_
  · simp [-splice, f0, f1, f2, f22]
    exact hJ _ _ _ ⟨by simp [f0], by simp [f1], by simp [f2], by simp [-splice, f0, f1, f2, f22]⟩
  clear f0 f1 f2 f22
  rintro t H n ⟨f0, f1, f2, f24⟩
  obtain ⟨K1, hK1, h⟩ := jnd h
  refine Stk.jo 4 (fun t H n => ∃ v3 : Bool, K1 v3 = some r ∧ t 0 = .ssl (encs c97 a0) a0.length false ∧ t 1 = .ssl (encs c37 a1) a1.length false ∧ t 2 = .ssl (encs c5 a2) a2.length false ∧ t 28 = .sc (.bool v3)) (fun J1 hJ1 => ?_) ?_
  · rcases Bool.eq_false_or_eq_true (!x2) with hb1 | hb1
    · rw [hb1] at f24
      replace h := cT hb1 h
      refine Stk.run 4 (fun t H n => t 0 = .ssl (encs c97 a0) a0.length false ∧ t 1 = .ssl (encs c37 a1) a1.length false ∧ t 2 = .ssl (encs c5 a2) a2.length false ∧ t 28 = .sc (.bool true)) (fun J hJ => ?_) ?_
      · simp [-splice, f0, f1, f2, f24]
        exact hJ _ _ _ ⟨by simp [f0], by simp [f1], by simp [f2], by simp [-splice, f0, f1, f2, f24]⟩
      clear f0 f1 f2 f24
      rintro t H n ⟨f0, f1, f2, f28⟩
      refine Stk.on ?_
      exact Stk.ln 0 (by decide) (hJ1 _ _ _ ⟨true, h, f0, f1, f2, f28⟩)
    · rw [hb1] at f24
      replace h := cF hb1 h
      refine Stk.run 1 (fun t H n => t 0 = .ssl (encs c97 a0) a0.length false ∧ t 1 = .ssl (encs c37 a1) a1.length false ∧ t 2 = .ssl (encs c5 a2) a2.length false ∧ t 24 = .sc (.bool false) ∧ t 25 = .ssl (encs c37 a1) a1.length false) (fun J hJ => ?_) ?_
      · simp [-splice, f0, f1, f2, f24]
        exact hJ _ _ _ ⟨by simp [f0], by simp [f1], by simp [f2], by simp [f24], by simp [-splice, f0, f1, f2, f24]⟩
      clear f0 f1 f2 f24
      rintro t H n ⟨f0, f1, f2, f24, f25⟩
      obtain ⟨x4, hx4, h⟩ := bnd h
      refine Stk.cv (g := 18) (args := [.ssl (encs c37 a1) a1.length false]) (args' := [.ssl (encs c37 a1) a1.length false]) (v := .sc (.bool x4)) [] (ok_L13_few F _ _ hx4) (by simp [f0, f1, f2, f24, f25]) rfl rfl (by simp [f0, f1, f2, f24, f25]) (.cons (.free (freeL_encs fr37 _)) (.nil)) (.inl ⟨rfl, rfl⟩) (fun t' ht' => ?_)
      refine Stk.gen (fun t H n => t 0 = .ssl (encs c97 a0) a0.length false ∧ t 1 = .ssl (encs c37 a1) a1.length false ∧ t 2 = .ssl (encs c5 a2) a2.length false ∧ t 24 = .sc (.bool false) ∧ t 26 = .sc (.bool x4)) ⟨by simp [ht', f0], by simp [ht', f1], by simp [ht', f2], by simp [ht', f24], by simp [ht']⟩ ?_
      clear f0 f1 f2 f24 f25 ht' t'
      rintro t H n ⟨f0, f1, f2, f24, f26⟩
      refine Stk.run 2 (fun t H n => t 0 = .ssl (encs c97 a0) a0.length false ∧ t 1 = .ssl (encs c37 a1) a1.length false ∧ t 2 = .ssl (encs c5 a2) a2.length false ∧ t 28 = .sc (.bool (!x4))) (fun J hJ => ?_) ?_
      · simp [-splice, f0, f1, f2, f24, f26]
        exact hJ _ _ _ ⟨by simp [f0], by simp [f1], by simp [f2], by simp [-splice, f0, f1, f2, f24, f26]⟩
      clear f0 f1 f2 f24 f26
      rintro t H n ⟨f0, f1, f2, f28⟩
      refine Stk.on ?_
      exact Stk.ln 0 (by decide) (hJ1 _ _ _ ⟨(!x4), h, f0, f1, f2, f28⟩)
  clear h f0 f1 f2 f24
  rintro t H n ⟨v3, h, f0, f1, f2, f28⟩
  subst hK1
  refine Stk.run 1 (fun t H n => t 0 = .ssl (encs c97 a0) a0.length false ∧ t 1 = .ssl (encs c37 a1) a1.length false ∧ t 2 = .ssl (encs c5 a2) a2.length false ∧ t 29 = .sc (.bool v3)) (fun J hJ => ?_) ?_
  · simp [-splice, f0, f1, f2, f28]
    exact hJ _ _ _ ⟨by simp [f0], by simp [f1], by simp [f2], by simp [-splice, f0, f1, f2, f28]⟩
  clear f0 f1 f2 f28
  rintro t H n ⟨f0, f1, f2, f29⟩
  refine Stk.jo 4 (fun t H n => t 0 = .ssl (encs c97 a0) a0.length false ∧ t 1 = .ssl (encs c37 a1) a1.length false ∧ t 2 = .ssl (encs c5 a2) a2.length false ∧ t 33 = .sc (.bool (v3 || (decide (20 < (a2.length : Int)))))) (fun J2 hJ2 => ?_) ?_
  · rcases Bool.eq_false_or_eq_true v3 with hb2 | hb2
    · rw [hb2] at f29
      refine Stk.run 4 (fun t H n => t 0 = .ssl (encs c97 a0) a0.length false ∧ t 1 = .ssl (encs c37 a1) a1.length false ∧ t 2 = .ssl (encs c5 a2) a2.length false ∧ t 33 = .sc (.bool true)) (fun J hJ => ?_) ?_
      · simp [-splice, f0, f1, f2, f29]
        exact hJ _ _ _ ⟨by simp [f0], by simp [f1], by simp [f2], by simp [-splice, f0, f1, f2, f29]⟩
      clear f0 f1 f2 f29
      rintro t H n ⟨f0, f1, f2, f33⟩
      refine Stk.on ?_
      exact Stk.ln 0 (by decide) (hJ2 _ _ _ ⟨f0, f1, f2, f33.trans (congrArg (fun q => AV.sc (.bool q)) (by rw [hb2]; rfl))⟩)
    · rw [hb2] at f29
      refine Stk.run 4 (fun t H n => t 0 = .ssl (encs c97 a0) a0.length false ∧ t 1 = .ssl (encs c37 a1) a1.length false ∧ t 2 = .ssl (encs c5 a2) a2.length false ∧ t 33 = .sc (.bool (decide (20 < (a2.length : Int))))) (fun J hJ => ?_) ?_
      · simp [-splice, f0, f1, f2, f29]
        exact hJ _ _ _ ⟨by simp [f0], by simp [f1], by simp [f2], by simp [-splice, f0, f1, f2, f29]⟩
      clear f0 f1 f2 f29
      rintro t H n ⟨f0, f1, f2, f33⟩
      refine Stk.on ?_
      exact Stk.ln 0 (by decide) (hJ2 _ _ _ ⟨f0, f1, f2, f33.trans (congrArg (fun q => AV.sc (.bool q)) (by rw [hb2]; rfl))⟩)
  clear f0 f1 f2 f29
  rintro t H n ⟨f0, f1, f2, f33⟩
  refine Stk.on ?_
  refine Stk.cond (v3 || (decide (20 < (a2.length : Int)))) (by exact f33) (fun hb5 => ?_) (fun hb5 => ?_)
  · have h := cT hb5 h
    refine Stk.sq ?_
    refine Stk.rg ?_
    obtain ⟨x6, hx6, h⟩ := bnd h
    refine Stk.cv (g := 19) (args := []) (args' := []) (v := .sc (.bool x6)) [] (ok_L13_awake F  _ hx6) (by simp [f0, f1, f2, f33]) rfl rfl (by simp [f0, f1, f2, f33]) (.nil) (.inl ⟨rfl, rfl⟩) (fun t' ht' => ?_)
    refine Stk.gen (fun t H n => t 34 = .sc (.bool x6)) (by simp [ht']) ?_
    clear f0 f1 f2 f33 ht' t'
    rintro t H n f34
    refine Stk.run 1 (fun t H n => t 6 = .sc (.bool x6)) (fun J hJ => ?_) ?_
    · simp [-splice, f34]
      exact hJ _ _ _ (by simp [-splice, f34])
    clear f34
    rintro t H n f6
    refine Stk.on ?_
    refine Stk.rt ?_
    have hq := Option.some.inj h; subst hq
    exact (hr _ _ _ (.sc (.bool x6)) ([]) (by simp [f6]) (.inr (.inr (.free (rfl))))).1
  · have h := cF hb5 h
    refine Stk.sk ?_
    refine Stk.sq ?_
    refine Stk.rg ?_
    refine Stk.run 2 (fun t H n => t 0 = .ssl (encs c97 a0) a0.length false ∧ t 1 = .ssl (encs c37 a1) a1.length false ∧ t 2 = .ssl (encs c5 a2) a2.length false ∧ t 36 = .ssl (encs c97 a0) a0.length false ∧ t 37 = .ssl (encs c37 a1) a1.length false) (fun J hJ => ?_) ?_
    · simp [-splice, f0, f1, f2, f33]
      exact hJ _ _ _ ⟨by simp [f0], by simp [f1], by simp [f2], by simp [-splice, f0, f1, f2, f33], by simp [-splice, f0, f1, f2, f33]⟩
    clear f0 f1 f2 f33
    rintro t H n ⟨f0, f1, f2, f36, f37⟩
    obtain ⟨x7, hx7, h⟩ := bnd h
    refine Stk.cv (g := 26) (args := [.ssl (encs c97 a0) a0.length false, .ssl (encs c37 a1) a1.length false]) (args' := [.ssl (encs c97 a0) a0.length false, .ssl (encs c37 a1) a1.length false]) (v := .tup [.ssl (encs c97 x7.1) x7.1.length false, .sc (.int .i64 x7.2)]) [] (ok_poly_Put F _ _ _ hx7) (by simp [f0, f1, f2, f36, f37]) rfl rfl (by simp [f0, f1, f2, f36, f37]) (.cons (.free (freeL_encs fr97 _)) (.cons (.free (freeL_encs fr37 _)) (.nil))) (.inl ⟨rfl, by simp [free, freeL, freeL_encs fr97]⟩) (fun t' ht' => ?_)
    refine Stk.gen (fun t H n => t 0 = .ssl (encs c97 a0) a0.length false ∧ t 1 = .ssl (encs c37 a1) a1.length false ∧ t 2 = .ssl (encs c5 a2) a2.length false ∧ t 38 = .tup [.ssl (encs c97 x7.1) x7.1.length false, .sc (.int .i64 x7.2)]) ⟨by simp [ht', f0], by simp [ht', f1], by simp [ht', f2], by simp [ht']⟩ ?_
    clear f0 f1 f2 f36 f37 ht' t'
    rintro t H n ⟨f0, f1, f2, f38⟩
    refine Stk.run 5 (fun t H n => t 0 = .ssl (encs c97 a0) a0.length false ∧ t 1 = .ssl (encs c37 a1) a1.length false ∧ t 2 = .ssl (encs c5 a2) a2.length false ∧ t 7 = .ssl (encs c97 x7.1) x7.1.length false ∧ t 8 = .sc (.int .i64 x7.2)) (fun J hJ => ?_) ?_
    · simp [-splice, f0, f1, f2, f38]
      exact hJ _ _ _ ⟨by simp [f0], by simp [f1], by simp [f2], by simp [-splice, f0, f1, f2, f38], by simp [-splice, f0, f1, f2, f38]⟩
    clear f0 f1 f2 f38
    rintro t H n ⟨f0, f1, f2, f7, f8⟩
    refine Stk.on ?_
    refine Stk.sq ?_
    refine Stk.sq ?_
    refine Stk.rg ?_
    refine Stk.run 2 (fun t H n => t 0 = .ssl (encs c97 a0) a0.length false ∧ t 1 = .ssl (encs c37 a1) a1.length false ∧ t 2 = .ssl (encs c5 a2) a2.length false ∧ t 7 = .ssl (encs c97 x7.1) x7.1.length false ∧ t 42 = .sc (.bool (x7.2 != 0))) (fun J hJ => ?_) ?_
    · simp [-splice, f0, f1, f2, f7, f8]
      exact hJ _ _ _ ⟨by simp [f0], by simp [f1], by simp [f2], by simp [f7], by simp [-splice, f0, f1, f2, f7, f8]⟩
    clear f0 f1 f2 f7 f8
    rintro t H n ⟨f0, f1, f2, f7, f42⟩
    refine Stk.on ?_
    refine Stk.cond (x7.2 != 0) (by exact f42) (fun hb8 => ?_) (fun hb8 => ?_)
    · have h := cT hb8 h
      refine Stk.sq ?_
      refine Stk.rg ?_
      obtain ⟨x9, hx9, h⟩ := bnd h
      refine Stk.cv (g := 19) (args := []) (args' := []) (v := .sc (.bool x9)) [] (ok_L13_awake F  _ hx9) (by simp [f0, f1, f2, f7, f42]) rfl rfl (by simp [f0, f1, f2, f7, f42]) (.nil) (.inl ⟨rfl, rfl⟩) (fun t' ht' => ?_)
      refine Stk.gen (fun t H n => t 43 = .sc (.bool x9)) (by simp [ht']) ?_
      clear f0 f1 f2 f7 f42 ht' t'
      rintro t H n f43
      refine Stk.run 1 (fun t H n => t 6 = .sc (.bool x9)) (fun J hJ => ?_) ?_
      · simp [-splice, f43]
        exact hJ _ _ _ (by simp [-splice, f43])
      clear f43
      rintro t H n f6
      refine Stk.on ?_
      refine Stk.rt ?_
      have hq := Option.some.inj h; subst hq
      exact (hr _ _ _ (.sc (.bool x9)) ([]) (by simp [f6]) (.inr (.inr (.free (rfl))))).1
    · have h := cF hb8 h
      refine Stk.sk ?_
      refine Stk.sq ?_
      refine Stk.rg ?_
      refine Stk.run 1 (fun t H n => t 0 = .ssl (encs c97 a0) a0.length false ∧ t 1 = .ssl (encs c37 a1) a1.length false ∧ t 2 = .ssl (encs c5 a2) a2.length false ∧ t 7 = .ssl (encs c97 x7.1) x7.1.length false ∧ t 9 = .sc (.slice none 0 0)) (fun J hJ => ?_) ?_
      · simp [-splice, f0, f1, f2, f7, f42]
        exact hJ _ _ _ ⟨by simp [f0], by simp [f1], by simp [f2], by simp [f7], by simp [-splice, f0, f1, f2, f7, f42]⟩
      clear f0 f1 f2 f7 f42
      rintro t H n ⟨f0, f1, f2, f7, f9⟩
      obtain ⟨o10, ho10⟩ : ∃ o : Option Nat, o = none := ⟨none, rfl⟩
      obtain ⟨co10, hco10⟩ : ∃ c : Option Nat, c = none := ⟨none, rfl⟩
      replace f9 : t 9 = slc o10 ([] : List Int).length co10 := by rw [ho10]; exact f9
      have b_o10 : OwnC H 2 1 c2 o10 co10 ([] : List Int) := by rw [ho10]; exact rfl
      have l_o10 : ∀ i, o10 = some i → i < n := by rw [ho10]; intro i e; cases e
      refine Stk.run 1 (fun t H n => t 0 = .ssl (encs c97 a0) a0.length false ∧ t 1 = .ssl (encs c37 a1) a1.length false ∧ t 2 = .ssl (encs c5 a2) a2.length false ∧ t 7 = .ssl (encs c97 x7.1) x7.1.length false ∧ t 9 = slc o10 ([] : List Int).length co10 ∧ t 10 = .sc (.slice none 0 0) ∧ OwnC H 2 1 c2 o10 co10 ([] : List Int) ∧ (∀ i, o10 = some i → i < n)) (fun J hJ => ?_) ?_
      · simp [-splice, f0, f1, f2, f7, f9]
        exact hJ _ _ _ ⟨by simp [f0], by simp [f1], by simp [f2], by simp [f7], by simp [f9], by simp [-splice, f0, f1, f2, f7, f9], b_o10, l_o10⟩
      clear f0 f1 f2 f7 f9 b_o10 l_o10
      rintro t H n ⟨f0, f1, f2, f7, f9, f10, b_o10, l_o10⟩
      obtain ⟨o11, ho11⟩ : ∃ o : Option Nat, o = none := ⟨none, rfl⟩
      obtain ⟨co11, hco11⟩ : ∃ c : Option Nat, c = none := ⟨none, rfl⟩
      replace f10 : t 10 = slc o11 ([] : List Int).length co11 := by rw [ho11]; exact f10
      have b_o11 : OwnC H 2 1 c2 o11 co11 ([] : List Int) := by rw [ho11]; exact rfl
      have l_o11 : ∀ i, o11 = some i → i < n := by rw [ho11]; intro i e; cases e
      have d_o10_o11 : ∀ i, o11 = some i → o10 ≠ some i := by rw [ho11]; intro i e; cases e
      refine Stk.on ?_
      refine Stk.sq ?_
      refine Stk.sq ?_
      refine Stk.rg ?_
      refine Stk.run 3 (fun t H n => t 0 = .ssl (encs c97 a0) a0.length false ∧ t 1 = .ssl (encs c37 a1) a1.length false ∧ t 7 = .ssl (encs c97 x7.1) x7.1.length false ∧ t 9 = slc o10 ([] : List Int).length co10 ∧ t 10 = slc o11 ([] : List Int).length co11 ∧ t 44 = .ssl (encs c5 a2) a2.length false ∧ t 45 = .sc (.int .i64 (a2.length : Int)) ∧ t 46 = .sc (.int .i64 0) ∧ OwnC H 2 1 c2 o10 co10 ([] : List Int) ∧ (∀ i, o10 = some i → i < n) ∧ OwnC H 2 1 c2 o11 co11 ([] : List Int) ∧ (∀ i, o11 = some i → i < n) ∧ (∀ i, o11 = some i → o10 ≠ some i)) (fun J hJ => ?_) ?_
      · simp [-splice, f0, f1, f2, f7, f9, f10]
        exact hJ _ _ _ ⟨by simp [f0], by simp [f1], by simp [f7], by simp [f9], by simp [f10], by simp [-splice, f0, f1, f2, f7, f9, f10], by simp [-splice, f0, f1, f2, f7, f9, f10], by simp [-splice, f0, f1, f2, f7, f9, f10], b_o10, l_o10, b_o11, l_o11, d_o10_o11⟩
      clear f0 f1 f2 f7 f9 f10 b_o10 l_o10 b_o11 l_o11 d_o10_o11
      rintro t H n ⟨f0, f1, f7, f9, f10, f44, f45, f46, b_o10, l_o10, b_o11, l_o11, d_o10_o11⟩
      refine Stk.on ?_
      obtain ⟨K3, hK3, h⟩ := jnd h
      refine Stk.jn (fun t H n => ∃ o12 : Option Nat, ∃ co12 : Option Nat, ∃ v13 : List Int, K3 v13 = some r ∧ t 0 = .ssl (encs c97 a0) a0.length false ∧ t 1 = .ssl (encs c37 a1) a1.length false ∧ t 7 = .ssl (encs c97 x7.1) x7.1.length false ∧ t 9 = slc o12 v13.length co12 ∧ t 10 = slc o11 ([] : List Int).length co11 ∧ OwnC H 2 1 c2 o12 co12 v13 ∧ (∀ i, o12 = some i → i < n) ∧ OwnC H 2 1 c2 o11 co11 ([] : List Int) ∧ (∀ i, o11 = some i → i < n) ∧ (∀ i, o11 = some i → o12 ≠ some i)) trivial (fun J3 hJ3 => ?_) ?_
      · skip
        refine Stk.bk ?_
        refine Stk.lo (fun μ t H n => ∃ o14 : Option Nat, ∃ co14 : Option Nat, ∃ v15 : List Int, ∃ v16 : Int, L13_PolyPuts_L0 F a2 K3 μ v15 v16 = some r ∧ t 0 = .ssl (encs c97 a0) a0.length false ∧ t 1 = .ssl (encs c37 a1) a1.length false ∧ t 7 = .ssl (encs c97 x7.1) x7.1.length false ∧ t 9 = slc o14 v15.length co14 ∧ t 10 = slc o11 ([] : List Int).length co11 ∧ t 44 = .ssl (encs c5 a2) a2.length false ∧ t 45 = .sc (.int .i64 (a2.length : Int)) ∧ t 46 = .sc (.int .i64 v16) ∧ OwnC H 2 1 c2 o14 co14 v15 ∧ (∀ i, o14 = some i → i < n) ∧ OwnC H 2 1 c2 o11 co11 ([] : List Int) ∧ (∀ i, o11 = some i → i < n) ∧ (∀ i, o11 = some i → o14 ≠ some i)) F ⟨o10, co10, ([] : List Int), 0, h, f0, f1, f7, f9, f10, f44, f45, f46, b_o10, l_o10, b_o11, l_o11, d_o10_o11⟩ ?_
        clear h f0 f1 f7 f9 f10 f44 f45 f46 b_o10 l_o10 b_o11 l_o11 d_o10_o11
        rintro J4 hJ4 μ t H n ⟨o14, co14, v15, v16, h, f0, f1, f7, f9, f10, f44, f45, f46, b_o14, l_o14, b_o11, l_o11, d_o14_o11⟩
        cases μ with
        | zero => exact absurd h (by simp [L13_PolyPuts_L0])
        | succ μ =>
        rw [L13_PolyPuts_L0] at h
        refine Stk.sq ?_
        refine Stk.rg ?_
        refine Stk.run 1 (fun t H n => t 0 = .ssl (encs c97 a0) a0.length false ∧ t 1 = .ssl (encs c37 a1) a1.length false ∧ t 7 = .ssl (encs c97 x7.1) x7.1.length false ∧ t 9 = slc o14 v15.length co14 ∧ t 10 = slc o11 ([] : List Int).length co11 ∧ t 44 = .ssl (encs c5 a2) a2.length false ∧ t 45 = .sc (.int .i64 (a2.length : Int)) ∧ t 46 = .sc (.int .i64 v16) ∧ t 47 = .sc (.bool (decide (v16 < (a2.length : Int)))) ∧ OwnC H 2 1 c2 o14 co14 v15 ∧ (∀ i, o14 = some i → i < n) ∧ OwnC H 2 1 c2 o11 co11 ([] : List Int) ∧ (∀ i, o11 = some i → i < n) ∧ (∀ i, o11 = some i → o14 ≠ some i)) (fun J hJ => ?_) ?_
        · simp [-splice, f0, f1, f7, f9, f10, f44, f45, f46]
          exact hJ _ _ _ ⟨by simp [f0], by simp [f1], by simp [f7], by simp [f9], by simp [f10], by simp [f44], by simp [f45], by simp [f46], by simp [-splice, f0, f1, f7, f9, f10, f44, f45, f46], b_o14, l_o14, b_o11, l_o11, d_o14_o11⟩
        clear f0 f1 f7 f9 f10 f44 f45 f46 b_o14 l_o14 b_o11 l_o11 d_o14_o11
        rintro t H n ⟨f0, f1, f7, f9, f10, f44, f45, f46, f47, b_o14, l_o14, b_o11, l_o11, d_o14_o11⟩
        refine Stk.on ?_
        refine Stk.sq ?_
        refine Stk.cond (decide (v16 < (a2.length : Int))) (by exact f47) (fun hb20 => ?_) (fun hb20 => ?_)
        · have h := cT hb20 h
          refine Stk.sk ?_
          refine Stk.sq ?_
          refine Stk.bk ?_
          refine Stk.sq ?_
          refine Stk.rg ?_
          obtain ⟨x21, hx21, h⟩ := bnd h
          obtain ⟨i0x21, i1x21, i2x21, _⟩ := idx_ok hx21
          have ex21_0_5 : partOf T.T 5 (encs c5 a2) (v16.toNat) = some (.sc (.int .u8 x21)) := by
              have e0 := part_elem0 (e := c5) (z := 1) (T := T.T) (ty := 5) T.t5 (by decide) (by decide) hx21 0 (by decide)
              (try simp only [Nat.mul_one, Nat.add_zero] at e0)
              exact e0.trans rfl
          refine Stk.run 3 (fun t H n => t 0 = .ssl (encs c97 a0) a0.length false ∧ t 1 = .ssl (encs c37 a1) a1.length false ∧ t 7 = .ssl (encs c97 x7.1) x7.1.length false ∧ t 9 = slc o14 v15.length co14 ∧ t 10 = slc o11 ([] : List Int).length co11 ∧ t 12 = .sc (.int .u8 x21) ∧ t 44 = .ssl (encs c5 a2) a2.length false ∧ t 45 = .sc (.int .i64 (a2.length : Int)) ∧ t 46 = .sc (.int .i64 v16) ∧ OwnC H 2 1 c2 o14 co14 v15 ∧ (∀ i, o14 = some i → i < n) ∧ OwnC H 2 1 c2 o11 co11 ([] : List Int) ∧ (∀ i, o11 = some i → i < n) ∧ (∀ i, o11 = some i → o14 ≠ some i)) (fun J hJ => ?_) ?_
          · simp [-splice, f0, f1, f7, f9, f10, f44, f45, f46, f47, i0x21, i1x21, pd5, ex21_0_5]
            exact hJ _ _ _ ⟨by simp [f0], by simp [f1], by simp [f7], by simp [f9], by simp [f10], by simp [-splice, f0, f1, f7, f9, f10, f44, f45, f46, f47, i0x21, i1x21, pd5, ex21_0_5], by simp [f44], by simp [f45], by simp [f46], b_o14, l_o14, b_o11, l_o11, d_o14_o11⟩
          clear f0 f1 f7 f9 f10 f44 f45 f46 f47 b_o14 l_o14 b_o11 l_o11 d_o14_o11
          rintro t H n ⟨f0, f1, f7, f9, f10, f12, f44, f45, f46, b_o14, l_o14, b_o11, l_o11, d_o14_o11⟩
          refine Stk.on ?_
          refine Stk.rg ?_
          refine Stk.run 3 (fun t H n => t 0 = .ssl (encs c97 a0) a0.length false ∧ t 1 = .ssl (encs c37 a1) a1.length false ∧ t 7 = .ssl (encs c97 x7.1) x7.1.length false ∧ t 10 = slc o11 ([] : List Int).length co11 ∧ t 44 = .ssl (encs c5 a2) a2.length false ∧ t 45 = .sc (.int .i64 (a2.length : Int)) ∧ t 46 = .sc (.int .i64 v16) ∧ t 50 = slc o14 v15.length co14 ∧ t 52 = .sc (.int .i64 (IntKind.i64.wrap x21)) ∧ OwnC H 2 1 c2 o14 co14 v15 ∧ (∀ i, o14 = some i → i < n) ∧ OwnC H 2 1 c2 o11 co11 ([] : List Int) ∧ (∀ i, o11 = some i → i < n) ∧ (∀ i, o11 = some i → o14 ≠ some i)) (fun J hJ => ?_) ?_
          · simp [-splice, f0, f1, f7, f9, f10, f12, f44, f45, f46]
            exact hJ _ _ _ ⟨by simp [f0], by simp [f1], by simp [f7], by simp [f10], by simp [f44], by simp [f45], by simp [f46], by simp [-splice, f0, f1, f7, f9, f10, f12, f44, f45, f46], by simp [-splice, f0, f1, f7, f9, f10, f12, f44, f45, f46], b_o14, l_o14, b_o11, l_o11, d_o14_o11⟩
          clear f0 f1 f7 f9 f10 f12 f44 f45 f46 b_o14 l_o14 b_o11 l_o11 d_o14_o11
          rintro t H n ⟨f0, f1, f7, f10, f44, f45, f46, f50, f52, b_o14, l_o14, b_o11, l_o11, d_o14_o11⟩
          refine Stk.om (mop_buildN (c := c2) (z := 1) T.t45 rfl T.t2 rfl (by decide) rfl (by decide) [(IntKind.i64.wrap x21)] rfl (.cons f52 rfl rfl rfl rfl (by simp [length_encs]) (splice_next (c := c2) [] _ (IntKind.i64.wrap x21) rfl (by simp)) (.nil))) (by simp [f0, f1, f7, f10, f44, f45, f46, f50, f52]) rfl (fun t' ht' => ?_)
          refine Stk.gen (fun t H n => ∃ b22, t 0 = .ssl (encs c97 a0) a0.length false ∧ t 1 = .ssl (encs c37 a1) a1.length false ∧ t 7 = .ssl (encs c97 x7.1) x7.1.length false ∧ t 10 = slc o11 ([] : List Int).length co11 ∧ t 44 = .ssl (encs c5 a2) a2.length false ∧ t 45 = .sc (.int .i64 (a2.length : Int)) ∧ t 46 = .sc (.int .i64 v16) ∧ t 50 = slc o14 v15.length co14 ∧ t 53 = .osl b22 0 ([(IntKind.i64.wrap x21)] : List Int).length (some ([(IntKind.i64.wrap x21)] : List Int).length) ∧ H b22 = some (.cells (encs c2 ([(IntKind.i64.wrap x21)] : List Int)) 2) ∧ b22 < n ∧ OwnC H 2 1 c2 o14 co14 v15 ∧ (∀ i, o14 = some i → i < n) ∧ OwnC H 2 1 c2 o11 co11 ([] : List Int) ∧ (∀ i, o11 = some i → i < n) ∧ (∀ i, o14 = some i → i ≠ b22) ∧ (∀ i, o11 = some i → i ≠ b22) ∧ (∀ i, o11 = some i → o14 ≠ some i)) ⟨n, by simp [ht', f0], by simp [ht', f1], by simp [ht', f7], by simp [ht', f10], by simp [ht', f44], by simp [ht', f45], by simp [ht', f46], by simp [ht', f50], by simp [ht'], upd_same _ _ _, Nat.lt_succ_self _, b_o14.mono (fun i hi => upd_ne _ _ (Nat.ne_of_lt (l_o14 i hi))), fun i hi => Nat.lt_succ_of_lt (l_o14 i hi), b_o11.mono (fun i hi => upd_ne _ _ (Nat.ne_of_lt (l_o11 i hi))), fun i hi => Nat.lt_succ_of_lt (l_o11 i hi), fun i hi => Nat.ne_of_lt (l_o14 i hi), fun i hi => Nat.ne_of_lt (l_o11 i hi), d_o14_o11⟩ ?_
          clear f0 f1 f7 f10 f44 f45 f46 f50 f52 b_o14 l_o14 b_o11 l_o11 d_o14_o11 ht' t'
          rintro t H n ⟨b22, f0, f1, f7, f10, f44, f45, f46, f50, f53, b_b22, l_b22, b_o14, l_o14, b_o11, l_o11, d_b22_o14, d_b22_o11, d_o14_o11⟩
          obtain ⟨x23, hx23, h⟩ := bnd h
          obtain ⟨r1x23, r2x23, r3x23⟩ := appM_ok hx23
          obtain ⟨o24, co24, H9, n9, e9, w9, le9, fr9, kp9⟩ := append_ownC (e := c2) (z := 1) (st := 45) T.t45 rfl T.t2 rfl (by decide) rfl (by decide) b_o14 l_o14 (y := .osl b22 0 ([(IntKind.i64.wrap x21)] : List Int).length (some ([(IntKind.i64.wrap x21)] : List Int).length)) ([(IntKind.i64.wrap x21)] : List Int) (elems_row b_b22 _) (all_encs ok2 _) r1x23 r2x23
          rw [r3x23] at e9 w9
          refine Stk.om ((mop_append T.t45 rfl).trans (by rw [show ev t (.tmp 50) = t 50 from rfl, f50]; rw [show ev t (.tmp 53) = t 53 from rfl, f53];  exact e9)) (by simp [f0, f1, f7, f10, f44, f45, f46, f50, f53]) rfl (fun t' ht' => ?_)
          refine Stk.gen (fun t H n => t 0 = .ssl (encs c97 a0) a0.length false ∧ t 1 = .ssl (encs c37 a1) a1.length false ∧ t 7 = .ssl (encs c97 x7.1) x7.1.length false ∧ t 10 = slc o11 ([] : List Int).length co11 ∧ t 44 = .ssl (encs c5 a2) a2.length false ∧ t 45 = .sc (.int .i64 (a2.length : Int)) ∧ t 46 = .sc (.int .i64 v16) ∧ t 54 = slc o24 x23.length co24 ∧ OwnC H 2 1 c2 o11 co11 ([] : List Int) ∧ (∀ i, o11 = some i → i < n) ∧ OwnC H 2 1 c2 o24 co24 x23 ∧ (∀ i, o24 = some i → i < n) ∧ (∀ i, o24 = some i → o11 ≠ some i)) ⟨by simp [ht', f0], by simp [ht', f1], by simp [ht', f7], by simp [ht', f10], by simp [ht', f44], by simp [ht', f45], by simp [ht', f46], by simp [ht'], b_o11.mono (fun i hi => kp9 i (l_o11 i hi) (d_o14_o11 i hi)), fun i hi => Nat.lt_of_lt_of_le (l_o11 i hi) le9, w9, fun i hi => (fr9 i hi).2, fun i hi e => by rcases (fr9 i hi).1 with g | g; exact d_o14_o11 i e g; have := l_o11 i e; omega⟩ ?_
          clear f0 f1 f7 f10 f44 f45 f46 f50 f53 b_b22 l_b22 b_o14 l_o14 b_o11 l_o11 d_b22_o14 d_b22_o11 d_o14_o11 ht' t'
          rintro t H n ⟨f0, f1, f7, f10, f44, f45, f46, f54, b_o11, l_o11, b_o24, l_o24, d_o11_o24⟩
          refine Stk.run 1 (fun t H n => t 0 = .ssl (encs c97 a0) a0.length false ∧ t 1 = .ssl (encs c37 a1) a1.length false ∧ t 7 = .ssl (encs c97 x7.1) x7.1.length false ∧ t 9 = slc o24 x23.length co24 ∧ t 10 = slc o11 ([] : List Int).length co11 ∧ t 44 = .ssl (encs c5 a2) a2.length false ∧ t 45 = .sc (.int .i64 (a2.length : Int)) ∧ t 46 = .sc (.int .i64 v16) ∧ OwnC H 2 1 c2 o11 co11 ([] : List Int) ∧ (∀ i, o11 = some i → i < n) ∧ OwnC H 2 1 c2 o24 co24 x23 ∧ (∀ i, o24 = some i → i < n) ∧ (∀ i, o24 = some i → o11 ≠ some i)) (fun J hJ => ?_) ?_
          · simp [-splice, f0, f1, f7, f10, f44, f45, f46, f54]
            exact hJ _ _ _ ⟨by simp [f0], by simp [f1], by simp [f7], by simp [-splice, f0, f1, f7, f10, f44, f45, f46, f54], by simp [f10], by simp [f44], by simp [f45], by simp [f46], b_o11, l_o11, b_o24, l_o24, d_o11_o24⟩
          clear f0 f1 f7 f10 f44 f45 f46 f54 b_o11 l_o11 b_o24 l_o24 d_o11_o24
          rintro t H n ⟨f0, f1, f7, f9, f10, f44, f45, f46, b_o11, l_o11, b_o24, l_o24, d_o11_o24⟩
          refine Stk.on ?_
          refine Stk.bn ?_
          refine Stk.rg ?_
          refine Stk.run 2 (fun t H n => t 0 = .ssl (encs c97 a0) a0.length false ∧ t 1 = .ssl (encs c37 a1) a1.length false ∧ t 7 = .ssl (encs c97 x7.1) x7.1.length false ∧ t 9 = slc o24 x23.length co24 ∧ t 10 = slc o11 ([] : List Int).length co11 ∧ t 44 = .ssl (encs c5 a2) a2.length false ∧ t 45 = .sc (.int .i64 (a2.length : Int)) ∧ t 46 = .sc (.int .i64 (IntKind.i64.wrap (v16 + 1))) ∧ OwnC H 2 1 c2 o11 co11 ([] : List Int) ∧ (∀ i, o11 = some i → i < n) ∧ OwnC H 2 1 c2 o24 co24 x23 ∧ (∀ i, o24 = some i → i < n) ∧ (∀ i, o24 = some i → o11 ≠ some i)) (fun J hJ => ?_) ?_
          · simp [-splice, f0, f1, f7, f9, f10, f44, f45, f46]
            exact hJ _ _ _ ⟨by simp [f0], by simp [f1], by simp [f7], by simp [f9], by simp [f10], by simp [f44], by simp [f45], by simp [-splice, f0, f1, f7, f9, f10, f44, f45, f46], b_o11, l_o11, b_o24, l_o24, d_o11_o24⟩
          clear f0 f1 f7 f9 f10 f44 f45 f46 b_o11 l_o11 b_o24 l_o24 d_o11_o24
          rintro t H n ⟨f0, f1, f7, f9, f10, f44, f45, f46, b_o11, l_o11, b_o24, l_o24, d_o11_o24⟩
          refine Stk.on ?_
          exact Stk.ln μ (Nat.lt_succ_self _) (hJ4 _ _ _ _ ⟨o24, co24, x23, (IntKind.i64.wrap (v16 + 1)), h, f0, f1, f7, f9, f10, f44, f45, f46, b_o24, l_o24, b_o11, l_o11, (fun i h g => d_o11_o24 i g h)⟩)
        · have h := cF hb20 h
          refine Stk.ex rfl ?_
          exact Stk.ln 0 (by decide) (hJ3 _ _ _ ⟨o14, co14, v15, h, f0, f1, f7, f9, f10, b_o14, l_o14, b_o11, l_o11, d_o14_o11⟩)
      clear h f0 f1 f7 f9 f10 f44 f45 f46 b_o10 l_o10 b_o11 l_o11 d_o10_o11
      rintro t H n ⟨o12, co12, v13, h, f0, f1, f7, f9, f10, b_o12, l_o12, b_o11, l_o11, d_o12_o11⟩
      subst hK3
      refine Stk.sq ?_
      refine Stk.sq ?_
      refine Stk.rg ?_
      refine Stk.run 1 (fun t H n => t 0 = .ssl (encs c97 a0) a0.length false ∧ t 1 = .ssl (encs c37 a1) a1.length false ∧ t 7 = .ssl (encs c97 x7.1) x7.1.length false ∧ t 9 = slc o12 v13.length co12 ∧ t 10 = slc o11 ([] : List Int).length co11 ∧ t 56 = .sc (.int .i64 0) ∧ OwnC H 2 1 c2 o12 co12 v13 ∧ (∀ i, o12 = some i → i < n) ∧ OwnC H 2 1 c2 o11 co11 ([] : List Int) ∧ (∀ i, o11 = some i → i < n) ∧ (∀ i, o11 = some i → o12 ≠ some i)) (fun J hJ => ?_) ?_
      · simp [-splice, f0, f1, f7, f9, f10]
        exact hJ _ _ _ ⟨by simp [f0], by simp [f1], by simp [f7], by simp [f9], by simp [f10], by simp [-splice, f0, f1, f7, f9, f10], b_o12, l_o12, b_o11, l_o11, d_o12_o11⟩
      clear f0 f1 f7 f9 f10 b_o12 l_o12 b_o11 l_o11 d_o12_o11
      rintro t H n ⟨f0, f1, f7, f9, f10, f56, b_o12, l_o12, b_o11, l_o11, d_o12_o11⟩
      refine Stk.on ?_
      obtain ⟨K5, hK5, h⟩ := jnd h
      refine Stk.jn (fun t H n => ∃ o25 : Option Nat, ∃ co25 : Option Nat, ∃ v26 : List Int, ∃ o27 : Option Nat, ∃ co27 : Option Nat, ∃ v28 : List Int, K5 v26 v28 = some r ∧ t 0 = .ssl (encs c97 a0) a0.length false ∧ t 7 = .ssl (encs c97 x7.1) x7.1.length false ∧ t 9 = slc o25 v26.length co25 ∧ t 10 = slc o27 v28.length co27 ∧ OwnC H 2 1 c2 o25 co25 v26 ∧ (∀ i, o25 = some i → i < n) ∧ OwnC H 2 1 c2 o27 co27 v28 ∧ (∀ i, o27 = some i → i < n) ∧ (∀ i, o27 = some i → o25 ≠ some i)) trivial (fun J5 hJ5 => ?_) ?_
      · skip
        refine Stk.bk ?_
        refine Stk.lo (fun μ t H n => ∃ o29 : Option Nat, ∃ co29 : Option Nat, ∃ v30 : List Int, ∃ o31 : Option Nat, ∃ co31 : Option Nat, ∃ v32 : List Int, ∃ v33 : Int, L13_PolyPuts_L1 F a1 K5 μ v30 v32 v33 = some r ∧ t 0 = .ssl (encs c97 a0) a0.length false ∧ t 1 = .ssl (encs c37 a1) a1.length false ∧ t 7 = .ssl (encs c97 x7.1) x7.1.length false ∧ t 9 = slc o29 v30.length co29 ∧ t 10 = slc o31 v32.length co31 ∧ t 56 = .sc (.int .i64 v33) ∧ OwnC H 2 1 c2 o29 co29 v30 ∧ (∀ i, o29 = some i → i < n) ∧ OwnC H 2 1 c2 o31 co31 v32 ∧ (∀ i, o31 = some i → i < n) ∧ (∀ i, o31 = some i → o29 ≠ some i)) F ⟨o12, co12, v13, o11, co11, ([] : List Int), 0, h, f0, f1, f7, f9, f10, f56, b_o12, l_o12, b_o11, l_o11, d_o12_o11⟩ ?_
        clear h f0 f1 f7 f9 f10 f56 b_o12 l_o12 b_o11 l_o11 d_o12_o11
        rintro J6 hJ6 μ t H n ⟨o29, co29, v30, o31, co31, v32, v33, h, f0, f1, f7, f9, f10, f56, b_o29, l_o29, b_o31, l_o31, d_o29_o31⟩
        cases μ with
        | zero => exact absurd h (by simp [L13_PolyPuts_L1])
        | succ μ =>
        rw [L13_PolyPuts_L1] at h
        refine Stk.sq ?_
        refine Stk.rg ?_
        refine Stk.run 1 (fun t H n => t 0 = .ssl (encs c97 a0) a0.length false ∧ t 1 = .ssl (encs c37 a1) a1.length false ∧ t 7 = .ssl (encs c97 x7.1) x7.1.length false ∧ t 9 = slc o29 v30.length co29 ∧ t 10 = slc o31 v32.length co31 ∧ t 56 = .sc (.int .i64 v33) ∧ t 57 = .sc (.bool (decide (v33 < 12))) ∧ OwnC H 2 1 c2 o29 co29 v30 ∧ (∀ i, o29 = some i → i < n) ∧ OwnC H 2 1 c2 o31 co31 v32 ∧ (∀ i, o31 = some i → i < n) ∧ (∀ i, o31 = some i → o29 ≠ some i)) (fun J hJ => ?_) ?_
        · simp [-splice, f0, f1, f7, f9, f10, f56]
          exact hJ _ _ _ ⟨by simp [f0], by simp [f1], by simp [f7], by simp [f9], by simp [f10], by simp [f56], by simp [-splice, f0, f1, f7, f9, f10, f56], b_o29, l_o29, b_o31, l_o31, d_o29_o31⟩
        clear f0 f1 f7 f9 f10 f56 b_o29 l_o29 b_o31 l_o31 d_o29_o31
        rintro t H n ⟨f0, f1, f7, f9, f10, f56, f57, b_o29, l_o29, b_o31, l_o31, d_o29_o31⟩
        refine Stk.on ?_
        refine Stk.sq ?_
        refine Stk.cond (decide (v33 < 12)) (by exact f57) (fun hb39 => ?_) (fun hb39 => ?_)
        · have h := cT hb39 h
          refine Stk.sk ?_
          refine Stk.sq ?_
          refine Stk.bk ?_
          refine Stk.sq ?_
          refine Stk.rg ?_
          refine Stk.run 2 (fun t H n => t 0 = .ssl (encs c97 a0) a0.length false ∧ t 1 = .ssl (encs c37 a1) a1.length false ∧ t 7 = .ssl (encs c97 x7.1) x7.1.length false ∧ t 9 = slc o29 v30.length co29 ∧ t 10 = slc o31 v32.length co31 ∧ t 13 = .sc (.int .i64 v33) ∧ t 56 = .sc (.int .i64 v33) ∧ OwnC H 2 1 c2 o29 co29 v30 ∧ (∀ i, o29 = some i → i < n) ∧ OwnC H 2 1 c2 o31 co31 v32 ∧ (∀ i, o31 = some i → i < n) ∧ (∀ i, o31 = some i → o29 ≠ some i)) (fun J hJ => ?_) ?_
          · simp [-splice, f0, f1, f7, f9, f10, f56, f57]
            exact hJ _ _ _ ⟨by simp [f0], by simp [f1], by simp [f7], by simp [f9], by simp [f10], by simp [-splice, f0, f1, f7, f9, f10, f56, f57], by simp [f56], b_o29, l_o29, b_o31, l_o31, d_o29_o31⟩
          clear f0 f1 f7 f9 f10 f56 f57 b_o29 l_o29 b_o31 l_o31 d_o29_o31
          rintro t H n ⟨f0, f1, f7, f9, f10, f13, f56, b_o29, l_o29, b_o31, l_o31, d_o29_o31⟩
          refine Stk.on ?_
          refine Stk.sq ?_
          refine Stk.rg ?_
          refine Stk.run 2 (fun t H n => t 0 = .ssl (encs c97 a0) a0.length false ∧ t 1 = .ssl (encs c37 a1) a1.length false ∧ t 7 = .ssl (encs c97 x7.1) x7.1.length false ∧ t 9 = slc o29 v30.length co29 ∧ t 10 = slc o31 v32.length co31 ∧ t 13 = .sc (.int .i64 v33) ∧ t 14 = .sc (.int .i64 0) ∧ t 15 = .sc (.int .i64 0) ∧ t 56 = .sc (.int .i64 v33) ∧ OwnC H 2 1 c2 o29 co29 v30 ∧ (∀ i, o29 = some i → i < n) ∧ OwnC H 2 1 c2 o31 co31 v32 ∧ (∀ i, o31 = some i → i < n) ∧ (∀ i, o31 = some i → o29 ≠ some i)) (fun J hJ => ?_) ?_
          · simp [-splice, f0, f1, f7, f9, f10, f13, f56]
            exact hJ _ _ _ ⟨by simp [f0], by simp [f1], by simp [f7], by simp [f9], by simp [f10], by simp [f13], by simp [-splice, f0, f1, f7, f9, f10, f13, f56], by simp [-splice, f0, f1, f7, f9, f10, f13, f56], by simp [f56], b_o29, l_o29, b_o31, l_o31, d_o29_o31⟩
          clear f0 f1 f7 f9 f10 f13 f56 b_o29 l_o29 b_o31 l_o31 d_o29_o31
          rintro t H n ⟨f0, f1, f7, f9, f10, f13, f14, f15, f56, b_o29, l_o29, b_o31, l_o31, d_o29_o31⟩
          refine Stk.on ?_
          refine Stk.sq ?_
          refine Stk.sq ?_
          refine Stk.rg ?_
          refine Stk.run 4 (fun t H n => t 0 = .ssl (encs c97 a0) a0.length false ∧ t 1 = .ssl (encs c37 a1) a1.length false ∧ t 7 = .ssl (encs c97 x7.1) x7.1.length false ∧ t 9 = slc o29 v30.length co29 ∧ t 10 = slc o31 v32.length co31 ∧ t 13 = .sc (.int .i64 v33) ∧ t 14 = .sc (.int .i64 0) ∧ t 15 = .sc (.int .i64 0) ∧ t 56 = .sc (.int .i64 v33) ∧ t 62 = .sc (.bool (decide (v33 < (a1.length : Int)))) ∧ OwnC H 2 1 c2 o29 co29 v30 ∧ (∀ i, o29 = some i → i < n) ∧ OwnC H 2 1 c2 o31 co31 v32 ∧ (∀ i, o31 = some i → i < n) ∧ (∀ i, o31 = some i → o29 ≠ some i)) (fun J hJ => ?_) ?_
          · simp [-splice, f0, f1, f7, f9, f10, f13, f14, f15, f56]
            exact hJ _ _ _ ⟨by simp [f0], by simp [f1], by simp [f7], by simp [f9], by simp [f10], by simp [f13], by simp [f14], by simp [f15], by simp [f56], by simp [-splice, f0, f1, f7, f9, f10, f13, f14, f15, f56], b_o29, l_o29, b_o31, l_o31, d_o29_o31⟩
          clear f0 f1 f7 f9 f10 f13 f14 f15 f56 b_o29 l_o29 b_o31 l_o31 d_o29_o31
          rintro t H n ⟨f0, f1, f7, f9, f10, f13, f14, f15, f56, f62, b_o29, l_o29, b_o31, l_o31, d_o29_o31⟩
          refine Stk.on ?_
          obtain ⟨K7, hK7, h⟩ := jnd h
          refine Stk.jn (fun t H n => ∃ o40 : Option Nat, ∃ co40 : Option Nat, ∃ v41 : List Int, ∃ v42 : Int, ∃ v43 : Int, K7 v41 v42 v43 = some r ∧ t 0 = .ssl (encs c97 a0) a0.length false ∧ t 1 = .ssl (encs c37 a1) a1.length false ∧ t 7 = .ssl (encs c97 x7.1) x7.1.length false ∧ t 9 = slc o40 v41.length co40 ∧ t 10 = slc o31 v32.length co31 ∧ t 14 = .sc (.int .i64 v42) ∧ t 15 = .sc (.int .i64 v43) ∧ t 56 = .sc (.int .i64 v33) ∧ OwnC H 2 1 c2 o40 co40 v41 ∧ (∀ i, o40 = some i → i < n) ∧ OwnC H 2 1 c2 o31 co31 v32 ∧ (∀ i, o31 = some i → i < n) ∧ (∀ i, o31 = some i → o40 ≠ some i)) trivial (fun J7 hJ7 => ?_) ?_
          · skip
            refine Stk.cond (decide (v33 < (a1.length : Int))) (by exact f62) (fun hb44 => ?_) (fun hb44 => ?_)
            · have h := cT hb44 h
              refine Stk.rg ?_
              obtain ⟨x45, hx45, h⟩ := bnd h
              obtain ⟨i0x45, i1x45, i2x45, _⟩ := idx_ok hx45
              have ex45_0_37 : partOf T.T 37 (encs c37 a1) (v33.toNat) = some (.ssl (encs c97 x45) x45.length false) := by
                  have e0 := part_elem0 (e := c37) (z := 1) (T := T.T) (ty := 37) T.t37 (by decide) (by decide) hx45 0 (by decide)
                  (try simp only [Nat.mul_one, Nat.add_zero] at e0)
                  exact e0.trans rfl
              refine Stk.run 5 (fun t H n => t 0 = .ssl (encs c97 a0) a0.length false ∧ t 1 = .ssl (encs c37 a1) a1.length false ∧ t 7 = .ssl (encs c97 x7.1) x7.1.length false ∧ t 9 = slc o29 v30.length co29 ∧ t 10 = slc o31 v32.length co31 ∧ t 56 = .sc (.int .i64 v33) ∧ t 67 = .ssl (encs c97 x45) x45.length false ∧ t 68 = slc o29 v30.length co29 ∧ OwnC H 2 1 c2 o29 co29 v30 ∧ (∀ i, o29 = some i → i < n) ∧ OwnC H 2 1 c2 o31 co31 v32 ∧ (∀ i, o31 = some i → i < n) ∧ (∀ i, o31 = some i → o29 ≠ some i)) (fun J hJ => ?_) ?_
              · simp [-splice, f0, f1, f7, f9, f10, f13, f14, f15, f56, f62, i0x45, i1x45, pd37, ex45_0_37]
                exact hJ _ _ _ ⟨by simp [f0], by simp [f1], by simp [f7], by simp [f9], by simp [f10], by simp [f56], by simp [-splice, f0, f1, f7, f9, f10, f13, f14, f15, f56, f62, i0x45, i1x45, pd37, ex45_0_37], by simp [-splice, f0, f1, f7, f9, f10, f13, f14, f15, f56, f62, i0x45, i1x45, pd37, ex45_0_37], b_o29, l_o29, b_o31, l_o31, d_o29_o31⟩
              clear f0 f1 f7 f9 f10 f13 f14 f15 f56 f62 b_o29 l_o29 b_o31 l_o31 d_o29_o31
              rintro t H n ⟨f0, f1, f7, f9, f10, f56, f67, f68, b_o29, l_o29, b_o31, l_o31, d_o29_o31⟩
              obtain ⟨x46, hx46, h⟩ := bnd h
              refine Stk.cv (g := 25) (args := [.ssl (encs c97 x45) x45.length false, slc o29 v30.length co29]) (args' := [.ssl (encs c97 x45) x45.length false, .ssl (encs c2 v30) v30.length false]) (v := .tup [.sc (.int .i64 x46.1), .sc (.int .i64 x46.2)]) o29.toList (ok_poly_At F _ _ _ hx46) (by simp [f0, f1, f7, f9, f10, f56, f67, f68]) rfl rfl (by simp [f0, f1, f7, f9, f10, f56, f67, f68]) (.cons (.free (freeL_encs fr97 _)) (.cons (view_ownC fr2 b_o29 (fun i hi => by simp [hi])) (.nil))) (.inr rfl) (fun t' ht' => ?_)
              refine Stk.gen (fun t H n => t 0 = .ssl (encs c97 a0) a0.length false ∧ t 1 = .ssl (encs c37 a1) a1.length false ∧ t 7 = .ssl (encs c97 x7.1) x7.1.length false ∧ t 9 = slc o29 v30.length co29 ∧ t 10 = slc o31 v32.length co31 ∧ t 56 = .sc (.int .i64 v33) ∧ t 69 = .tup [.sc (.int .i64 x46.1), .sc (.int .i64 x46.2)] ∧ OwnC H 2 1 c2 o29 co29 v30 ∧ (∀ i, o29 = some i → i < n) ∧ OwnC H 2 1 c2 o31 co31 v32 ∧ (∀ i, o31 = some i → i < n) ∧ (∀ i, o31 = some i → o29 ≠ some i)) ⟨by simp [ht', f0], by simp [ht', f1], by simp [ht', f7], by simp [ht', f9], by simp [ht', f10], by simp [ht', f56], by simp [ht'], b_o29, l_o29, b_o31, l_o31, d_o29_o31⟩ ?_
              clear f0 f1 f7 f9 f10 f56 f67 f68 b_o29 l_o29 b_o31 l_o31 d_o29_o31 ht' t'
              rintro t H n ⟨f0, f1, f7, f9, f10, f56, f69, b_o29, l_o29, b_o31, l_o31, d_o29_o31⟩
              refine Stk.run 5 (fun t H n => t 0 = .ssl (encs c97 a0) a0.length false ∧ t 1 = .ssl (encs c37 a1) a1.length false ∧ t 7 = .ssl (encs c97 x7.1) x7.1.length false ∧ t 9 = slc o29 v30.length co29 ∧ t 10 = slc o31 v32.length co31 ∧ t 14 = .sc (.int .i64 x46.1) ∧ t 15 = .sc (.int .i64 x46.2) ∧ t 56 = .sc (.int .i64 v33) ∧ OwnC H 2 1 c2 o29 co29 v30 ∧ (∀ i, o29 = some i → i < n) ∧ OwnC H 2 1 c2 o31 co31 v32 ∧ (∀ i, o31 = some i → i < n) ∧ (∀ i, o31 = some i → o29 ≠ some i)) (fun J hJ => ?_) ?_
              · simp [-splice, f0, f1, f7, f9, f10, f56, f69]
                exact hJ _ _ _ ⟨by simp [f0], by simp [f1], by simp [f7], by simp [f9], by simp [f10], by simp [-splice, f0, f1, f7, f9, f10, f56, f69], by simp [-splice, f0, f1, f7, f9, f10, f56, f69], by simp [f56], b_o29, l_o29, b_o31, l_o31, d_o29_o31⟩
              clear f0 f1 f7 f9 f10 f56 f69 b_o29 l_o29 b_o31 l_o31 d_o29_o31
              rintro t H n ⟨f0, f1, f7, f9, f10, f14, f15, f56, b_o29, l_o29, b_o31, l_o31, d_o29_o31⟩
              refine Stk.on ?_
              exact Stk.ln 0 (by decide) (hJ7 _ _ _ ⟨o29, co29, v30, x46.1, x46.2, h, f0, f1, f7, f9, f10, f14, f15, f56, b_o29, l_o29, b_o31, l_o31, d_o29_o31⟩)
            · have h := cF hb44 h
              refine Stk.sq ?_
              refine Stk.rg ?_
              refine Stk.run 2 (fun t H n => t 0 = .ssl (encs c97 a0) a0.length false ∧ t 1 = .ssl (encs c37 a1) a1.length false ∧ t 7 = .ssl (encs c97 x7.1) x7.1.length false ∧ t 9 = slc o29 v30.length co29 ∧ t 10 = slc o31 v32.length co31 ∧ t 13 = .sc (.int .i64 v33) ∧ t 14 = .sc (.int .i64 0) ∧ t 15 = .sc (.int .i64 0) ∧ t 56 = .sc (.int .i64 v33) ∧ t 72 = .sc (.int .i64 v33) ∧ t 73 = slc o29 v30.length co29 ∧ OwnC H 2 1 c2 o29 co29 v30 ∧ (∀ i, o29 = some i → i < n) ∧ OwnC H 2 1 c2 o31 co31 v32 ∧ (∀ i, o31 = some i → i < n) ∧ (∀ i, o31 = some i → o29 ≠ some i)) (fun J hJ => ?_) ?_
              · simp [-splice, f0, f1, f7, f9, f10, f13, f14, f15, f56, f62]
                exact hJ _ _ _ ⟨by simp [f0], by simp [f1], by simp [f7], by simp [f9], by simp [f10], by simp [f13], by simp [f14], by simp [f15], by simp [f56], by simp [-splice, f0, f1, f7, f9, f10, f13, f14, f15, f56, f62], by simp [-splice, f0, f1, f7, f9, f10, f13, f14, f15, f56, f62], b_o29, l_o29, b_o31, l_o31, d_o29_o31⟩
              clear f0 f1 f7 f9 f10 f13 f14 f15 f56 f62 b_o29 l_o29 b_o31 l_o31 d_o29_o31
              rintro t H n ⟨f0, f1, f7, f9, f10, f13, f14, f15, f56, f72, f73, b_o29, l_o29, b_o31, l_o31, d_o29_o31⟩
              refine Stk.ov (vop_len T.t45 rfl f73 b_o29) (by simp [f0, f1, f7, f9, f10, f13, f14, f15, f56, f72, f73]) rfl (fun t' ht' => ?_)
              refine Stk.gen (fun t H n => t 0 = .ssl (encs c97 a0) a0.length false ∧ t 1 = .ssl (encs c37 a1) a1.length false ∧ t 7 = .ssl (encs c97 x7.1) x7.1.length false ∧ t 9 = slc o29 v30.length co29 ∧ t 10 = slc o31 v32.length co31 ∧ t 13 = .sc (.int .i64 v33) ∧ t 14 = .sc (.int .i64 0) ∧ t 15 = .sc (.int .i64 0) ∧ t 56 = .sc (.int .i64 v33) ∧ t 72 = .sc (.int .i64 v33) ∧ t 74 = .sc (.int .i64 (v30.length : Int)) ∧ OwnC H 2 1 c2 o29 co29 v30 ∧ (∀ i, o29 = some i → i < n) ∧ OwnC H 2 1 c2 o31 co31 v32 ∧ (∀ i, o31 = some i → i < n) ∧ (∀ i, o31 = some i → o29 ≠ some i)) ⟨by simp [ht', f0], by simp [ht', f1], by simp [ht', f7], by simp [ht', f9], by simp [ht', f10], by simp [ht', f13], by simp [ht', f14], by simp [ht', f15], by simp [ht', f56], by simp [ht', f72], by simp [ht'], b_o29, l_o29, b_o31, l_o31, d_o29_o31⟩ ?_
              clear f0 f1 f7 f9 f10 f13 f14 f15 f56 f72 f73 b_o29 l_o29 b_o31 l_o31 d_o29_o31 ht' t'
              rintro t H n ⟨f0, f1, f7, f9, f10, f13, f14, f15, f56, f72, f74, b_o29, l_o29, b_o31, l_o31, d_o29_o31⟩
              refine Stk.run 1 (fun t H n => t 0 = .ssl (encs c97 a0) a0.length false ∧ t 1 = .ssl (encs c37 a1) a1.length false ∧ t 7 = .ssl (encs c97 x7.1) x7.1.length false ∧ t 9 = slc o29 v30.length co29 ∧ t 10 = slc o31 v32.length co31 ∧ t 13 = .sc (.int .i64 v33) ∧ t 14 = .sc (.int .i64 0) ∧ t 15 = .sc (.int .i64 0) ∧ t 56 = .sc (.int .i64 v33) ∧ t 75 = .sc (.bool (decide (v33 < (v30.length : Int)))) ∧ OwnC H 2 1 c2 o29 co29 v30 ∧ (∀ i, o29 = some i → i < n) ∧ OwnC H 2 1 c2 o31 co31 v32 ∧ (∀ i, o31 = some i → i < n) ∧ (∀ i, o31 = some i → o29 ≠ some i)) (fun J hJ => ?_) ?_
              · simp [-splice, f0, f1, f7, f9, f10, f13, f14, f15, f56, f72, f74]
                exact hJ _ _ _ ⟨by simp [f0], by simp [f1], by simp [f7], by simp [f9], by simp [f10], by simp [f13], by simp [f14], by simp [f15], by simp [f56], by simp [-splice, f0, f1, f7, f9, f10, f13, f14, f15, f56, f72, f74], b_o29, l_o29, b_o31, l_o31, d_o29_o31⟩
              clear f0 f1 f7 f9 f10 f13 f14 f15 f56 f72 f74 b_o29 l_o29 b_o31 l_o31 d_o29_o31
              rintro t H n ⟨f0, f1, f7, f9, f10, f13, f14, f15, f56, f75, b_o29, l_o29, b_o31, l_o31, d_o29_o31⟩
              refine Stk.on ?_
              refine Stk.cond (decide (v33 < (v30.length : Int))) (by exact f75) (fun hb47 => ?_) (fun hb47 => ?_)
              · have h := cT hb47 h
                refine Stk.rg ?_
                refine Stk.run 2 (fun t H n => t 0 = .ssl (encs c97 a0) a0.length false ∧ t 1 = .ssl (encs c37 a1) a1.length false ∧ t 7 = .ssl (encs c97 x7.1) x7.1.length false ∧ t 9 = slc o29 v30.length co29 ∧ t 10 = slc o31 v32.length co31 ∧ t 15 = .sc (.int .i64 0) ∧ t 56 = .sc (.int .i64 v33) ∧ t 76 = slc o29 v30.length co29 ∧ t 77 = .sc (.int .i64 v33) ∧ OwnC H 2 1 c2 o29 co29 v30 ∧ (∀ i, o29 = some i → i < n) ∧ OwnC H 2 1 c2 o31 co31 v32 ∧ (∀ i, o31 = some i → i < n) ∧ (∀ i, o31 = some i → o29 ≠ some i)) (fun J hJ => ?_) ?_
                · simp [-splice, f0, f1, f7, f9, f10, f13, f14, f15, f56, f75]
                  exact hJ _ _ _ ⟨by simp [f0], by simp [f1], by simp [f7], by simp [f9], by simp [f10], by simp [f15], by simp [f56], by simp [-splice, f0, f1, f7, f9, f10, f13, f14, f15, f56, f75], by simp [-splice, f0, f1, f7, f9, f10, f13, f14, f15, f56, f75], b_o29, l_o29, b_o31, l_o31, d_o29_o31⟩
                clear f0 f1 f7 f9 f10 f13 f14 f15 f56 f75 b_o29 l_o29 b_o31 l_o31 d_o29_o31
                rintro t H n ⟨f0, f1, f7, f9, f10, f15, f56, f76, f77, b_o29, l_o29, b_o31, l_o31, d_o29_o31⟩
                obtain ⟨x48, hx48, h⟩ := bnd h
                obtain ⟨i0x48, i1x48, i2x48, _⟩ := idx_ok hx48
                obtain ⟨b49, rfl⟩ := ownC_open b_o29 i2x48
                refine Stk.run 1 (fun t H n => t 0 = .ssl (encs c97 a0) a0.length false ∧ t 1 = .ssl (encs c37 a1) a1.length false ∧ t 7 = .ssl (encs c97 x7.1) x7.1.length false ∧ t 9 = slc (some b49) v30.length co29 ∧ t 10 = slc o31 v32.length co31 ∧ t 15 = .sc (.int .i64 0) ∧ t 56 = .sc (.int .i64 v33) ∧ t 78 = .own b49 (v33.toNat) ∧ OwnC H 2 1 c2 (some b49) co29 v30 ∧ (∀ i, (some b49) = some i → i < n) ∧ OwnC H 2 1 c2 o31 co31 v32 ∧ (∀ i, o31 = some i → i < n) ∧ (∀ i, o31 = some i → (some b49) ≠ some i)) (fun J hJ => ?_) ?_
                · simp [-splice, f0, f1, f7, f9, f10, f15, f56, f76, f77, i0x48, i1x48]
                  exact hJ _ _ _ ⟨by simp [f0], by simp [f1], by simp [f7], by simp [-splice, f0, f1, f7, f9, f10, f15, f56, f76, f77, i0x48, i1x48], by simp [f10], by simp [f15], by simp [f56], by simp [-splice, f0, f1, f7, f9, f10, f15, f56, f76, f77, i0x48, i1x48], b_o29, l_o29, b_o31, l_o31, d_o29_o31⟩
                clear f0 f1 f7 f9 f10 f15 f56 f76 f77 b_o29 l_o29 b_o31 l_o31 d_o29_o31
                rintro t H n ⟨f0, f1, f7, f9, f10, f15, f56, f78, b_o29, l_o29, b_o31, l_o31, d_o29_o31⟩
                obtain ⟨ysx48, hBx48, _⟩ := id b_o29
                have ex48_0_2 : partOf T.T 2 (encs c2 v30 ++ ysx48) (v33.toNat) = some (.sc (.int .i64 x48)) := by
                    have e0 := part_elem (e := c2) (z := 1) (T := T.T) (ty := 2) T.t2 (by decide) (by decide) hx48 ysx48 0 (by decide)
                    (try simp only [Nat.mul_one, Nat.add_zero] at e0)
                    exact e0.trans rfl
                refine Stk.run 2 (fun t H n => t 0 = .ssl (encs c97 a0) a0.length false ∧ t 1 = .ssl (encs c37 a1) a1.length false ∧ t 7 = .ssl (encs c97 x7.1) x7.1.length false ∧ t 9 = slc (some b49) v30.length co29 ∧ t 10 = slc o31 v32.length co31 ∧ t 14 = .sc (.int .i64 x48) ∧ t 15 = .sc (.int .i64 0) ∧ t 56 = .sc (.int .i64 v33) ∧ OwnC H 2 1 c2 (some b49) co29 v30 ∧ (∀ i, (some b49) = some i → i < n) ∧ OwnC H 2 1 c2 o31 co31 v32 ∧ (∀ i, o31 = some i → i < n) ∧ (∀ i, o31 = some i → (some b49) ≠ some i)) (fun J hJ => ?_) ?_
                · simp [-splice, f0, f1, f7, f9, f10, f15, f56, f78, hBx48, ex48_0_2]
                  exact hJ _ _ _ ⟨by simp [f0], by simp [f1], by simp [f7], by simp [f9], by simp [f10], by simp [-splice, f0, f1, f7, f9, f10, f15, f56, f78, hBx48, ex48_0_2], by simp [f15], by simp [f56], b_o29, l_o29, b_o31, l_o31, d_o29_o31⟩
                clear f0 f1 f7 f9 f10 f15 f56 f78 b_o29 l_o29 b_o31 l_o31 d_o29_o31
                rintro t H n ⟨f0, f1, f7, f9, f10, f14, f15, f56, b_o29, l_o29, b_o31, l_o31, d_o29_o31⟩
                refine Stk.on ?_
                exact Stk.ln 0 (by decide) (hJ7 _ _ _ ⟨(some b49), co29, v30, x48, 0, h, f0, f1, f7, f9, f10, f14, f15, f56, b_o29, l_o29, b_o31, l_o31, d_o29_o31⟩)
              · have h := cF hb47 h
                refine Stk.sk ?_
                exact Stk.ln 0 (by decide) (hJ7 _ _ _ ⟨o29, co29, v30, 0, 0, h, f0, f1, f7, f9, f10, f14, f15, f56, b_o29, l_o29, b_o31, l_o31, d_o29_o31⟩)
          clear h f0 f1 f7 f9 f10 f13 f14 f15 f56 f62 b_o29 l_o29 b_o31 l_o31 d_o29_o31
          rintro t H n ⟨o40, co40, v41, v42, v43, h, f0, f1, f7, f9, f10, f14, f15, f56, b_o40, l_o40, b_o31, l_o31, d_o40_o31⟩
          subst hK7
          refine Stk.sq ?_
          refine Stk.sq ?_
          refine Stk.rg ?_
          refine Stk.run 2 (fun t H n => t 0 = .ssl (encs c97 a0) a0.length false ∧ t 1 = .ssl (encs c37 a1) a1.length false ∧ t 7 = .ssl (encs c97 x7.1) x7.1.length false ∧ t 9 = slc o40 v41.length co40 ∧ t 10 = slc o31 v32.length co31 ∧ t 14 = .sc (.int .i64 v42) ∧ t 56 = .sc (.int .i64 v33) ∧ t 81 = .sc (.bool (v43 != 0)) ∧ OwnC H 2 1 c2 o40 co40 v41 ∧ (∀ i, o40 = some i → i < n) ∧ OwnC H 2 1 c2 o31 co31 v32 ∧ (∀ i, o31 = some i → i < n) ∧ (∀ i, o31 = some i → o40 ≠ some i)) (fun J hJ => ?_) ?_
          · simp [-splice, f0, f1, f7, f9, f10, f14, f15, f56]
            exact hJ _ _ _ ⟨by simp [f0], by simp [f1], by simp [f7], by simp [f9], by simp [f10], by simp [f14], by simp [f56], by simp [-splice, f0, f1, f7, f9, f10, f14, f15, f56], b_o40, l_o40, b_o31, l_o31, d_o40_o31⟩
          clear f0 f1 f7 f9 f10 f14 f15 f56 b_o40 l_o40 b_o31 l_o31 d_o40_o31
          rintro t H n ⟨f0, f1, f7, f9, f10, f14, f56, f81, b_o40, l_o40, b_o31, l_o31, d_o40_o31⟩
          refine Stk.on ?_
          refine Stk.cond (v43 != 0) (by exact f81) (fun hb50 => ?_) (fun hb50 => ?_)
          · have h := cT hb50 h
            refine Stk.sq ?_
            refine Stk.rg ?_
            obtain ⟨x51, hx51, h⟩ := bnd h
            refine Stk.cv (g := 19) (args := []) (args' := []) (v := .sc (.bool x51)) [] (ok_L13_awake F  _ hx51) (by simp [f0, f1, f7, f9, f10, f14, f56, f81]) rfl rfl (by simp [f0, f1, f7, f9, f10, f14, f56, f81]) (.nil) (.inl ⟨rfl, rfl⟩) (fun t' ht' => ?_)
            refine Stk.gen (fun t H n => t 82 = .sc (.bool x51)) (by simp [ht']) ?_
            clear f0 f1 f7 f9 f10 f14 f56 f81 b_o40 l_o40 b_o31 l_o31 d_o40_o31 ht' t'
            rintro t H n f82
            refine Stk.run 1 (fun t H n => t 6 = .sc (.bool x51)) (fun J hJ => ?_) ?_
            · simp [-splice, f82]
              exact hJ _ _ _ (by simp [-splice, f82])
            clear f82
            rintro t H n f6
            refine Stk.on ?_
            refine Stk.rt ?_
            have hq := Option.some.inj h; subst hq
            exact (hr _ _ _ (.sc (.bool x51)) ([]) (by simp [f6]) (.inr (.inr (.free (rfl))))).1
          · have h := cF hb50 h
            refine Stk.sk ?_
            refine Stk.rg ?_
            refine Stk.run 2 (fun t H n => t 0 = .ssl (encs c97 a0) a0.length false ∧ t 1 = .ssl (encs c37 a1) a1.length false ∧ t 7 = .ssl (encs c97 x7.1) x7.1.length false ∧ t 9 = slc o40 v41.length co40 ∧ t 56 = .sc (.int .i64 v33) ∧ t 83 = slc o31 v32.length co31 ∧ t 84 = .sc (.int .i64 v42) ∧ OwnC H 2 1 c2 o40 co40 v41 ∧ (∀ i, o40 = some i → i < n) ∧ OwnC H 2 1 c2 o31 co31 v32 ∧ (∀ i, o31 = some i → i < n) ∧ (∀ i, o31 = some i → o40 ≠ some i)) (fun J hJ => ?_) ?_
            · simp [-splice, f0, f1, f7, f9, f10, f14, f56, f81]
              exact hJ _ _ _ ⟨by simp [f0], by simp [f1], by simp [f7], by simp [f9], by simp [f56], by simp [-splice, f0, f1, f7, f9, f10, f14, f56, f81], by simp [-splice, f0, f1, f7, f9, f10, f14, f56, f81], b_o40, l_o40, b_o31, l_o31, d_o40_o31⟩
            clear f0 f1 f7 f9 f10 f14 f56 f81 b_o40 l_o40 b_o31 l_o31 d_o40_o31
            rintro t H n ⟨f0, f1, f7, f9, f56, f83, f84, b_o40, l_o40, b_o31, l_o31, d_o40_o31⟩
            refine Stk.om (mop_buildN (c := c2) (z := 1) T.t45 rfl T.t2 rfl (by decide) rfl (by decide) [v42] rfl (.cons f84 rfl rfl rfl rfl (by simp [length_encs]) (splice_next (c := c2) [] _ v42 rfl (by simp)) (.nil))) (by simp [f0, f1, f7, f9, f56, f83, f84]) rfl (fun t' ht' => ?_)
            refine Stk.gen (fun t H n => ∃ b52, t 0 = .ssl (encs c97 a0) a0.length false ∧ t 1 = .ssl (encs c37 a1) a1.length false ∧ t 7 = .ssl (encs c97 x7.1) x7.1.length false ∧ t 9 = slc o40 v41.length co40 ∧ t 56 = .sc (.int .i64 v33) ∧ t 83 = slc o31 v32.length co31 ∧ t 85 = .osl b52 0 ([v42] : List Int).length (some ([v42] : List Int).length) ∧ H b52 = some (.cells (encs c2 ([v42] : List Int)) 2) ∧ b52 < n ∧ OwnC H 2 1 c2 o40 co40 v41 ∧ (∀ i, o40 = some i → i < n) ∧ OwnC H 2 1 c2 o31 co31 v32 ∧ (∀ i, o31 = some i → i < n) ∧ (∀ i, o40 = some i → i ≠ b52) ∧ (∀ i, o31 = some i → i ≠ b52) ∧ (∀ i, o31 = some i → o40 ≠ some i)) ⟨n, by simp [ht', f0], by simp [ht', f1], by simp [ht', f7], by simp [ht', f9], by simp [ht', f56], by simp [ht', f83], by simp [ht'], upd_same _ _ _, Nat.lt_succ_self _, b_o40.mono (fun i hi => upd_ne _ _ (Nat.ne_of_lt (l_o40 i hi))), fun i hi => Nat.lt_succ_of_lt (l_o40 i hi), b_o31.mono (fun i hi => upd_ne _ _ (Nat.ne_of_lt (l_o31 i hi))), fun i hi => Nat.lt_succ_of_lt (l_o31 i hi), fun i hi => Nat.ne_of_lt (l_o40 i hi), fun i hi => Nat.ne_of_lt (l_o31 i hi), d_o40_o31⟩ ?_
            clear f0 f1 f7 f9 f56 f83 f84 b_o40 l_o40 b_o31 l_o31 d_o40_o31 ht' t'
            rintro t H n ⟨b52, f0, f1, f7, f9, f56, f83, f85, b_b52, l_b52, b_o40, l_o40, b_o31, l_o31, d_b52_o40, d_b52_o31, d_o40_o31⟩
            obtain ⟨x53, hx53, h⟩ := bnd h
            obtain ⟨r1x53, r2x53, r3x53⟩ := appM_ok hx53
            obtain ⟨o54, co54, H9, n9, e9, w9, le9, fr9, kp9⟩ := append_ownC (e := c2) (z := 1) (st := 45) T.t45 rfl T.t2 rfl (by decide) rfl (by decide) b_o31 l_o31 (y := .osl b52 0 ([v42] : List Int).length (some ([v42] : List Int).length)) ([v42] : List Int) (elems_row b_b52 _) (all_encs ok2 _) r1x53 r2x53
            rw [r3x53] at e9 w9
            refine Stk.om ((mop_append T.t45 rfl).trans (by rw [show ev t (.tmp 83) = t 83 from rfl, f83]; rw [show ev t (.tmp 85) = t 85 from rfl, f85];  exact e9)) (by simp [f0, f1, f7, f9, f56, f83, f85]) rfl (fun t' ht' => ?_)
            refine Stk.gen (fun t H n => t 0 = .ssl (encs c97 a0) a0.length false ∧ t 1 = .ssl (encs c37 a1) a1.length false ∧ t 7 = .ssl (encs c97 x7.1) x7.1.length false ∧ t 9 = slc o40 v41.length co40 ∧ t 56 = .sc (.int .i64 v33) ∧ t 86 = slc o54 x53.length co54 ∧ OwnC H 2 1 c2 o40 co40 v41 ∧ (∀ i, o40 = some i → i < n) ∧ OwnC H 2 1 c2 o54 co54 x53 ∧ (∀ i, o54 = some i → i < n) ∧ (∀ i, o54 = some i → o40 ≠ some i)) ⟨by simp [ht', f0], by simp [ht', f1], by simp [ht', f7], by simp [ht', f9], by simp [ht', f56], by simp [ht'], b_o40.mono (fun i hi => kp9 i (l_o40 i hi) (fun e => d_o40_o31 i e hi)), fun i hi => Nat.lt_of_lt_of_le (l_o40 i hi) le9, w9, fun i hi => (fr9 i hi).2, fun i hi e => by rcases (fr9 i hi).1 with g | g; exact d_o40_o31 i g e; have := l_o40 i e; omega⟩ ?_
            clear f0 f1 f7 f9 f56 f83 f85 b_b52 l_b52 b_o40 l_o40 b_o31 l_o31 d_b52_o40 d_b52_o31 d_o40_o31 ht' t'
            rintro t H n ⟨f0, f1, f7, f9, f56, f86, b_o40, l_o40, b_o54, l_o54, d_o40_o54⟩
            refine Stk.run 1 (fun t H n => t 0 = .ssl (encs c97 a0) a0.length false ∧ t 1 = .ssl (encs c37 a1) a1.length false ∧ t 7 = .ssl (encs c97 x7.1) x7.1.length false ∧ t 9 = slc o40 v41.length co40 ∧ t 10 = slc o54 x53.length co54 ∧ t 56 = .sc (.int .i64 v33) ∧ OwnC H 2 1 c2 o40 co40 v41 ∧ (∀ i, o40 = some i → i < n) ∧ OwnC H 2 1 c2 o54 co54 x53 ∧ (∀ i, o54 = some i → i < n) ∧ (∀ i, o54 = some i → o40 ≠ some i)) (fun J hJ => ?_) ?_
            · simp [-splice, f0, f1, f7, f9, f56, f86]
              exact hJ _ _ _ ⟨by simp [f0], by simp [f1], by simp [f7], by simp [f9], by simp [-splice, f0, f1, f7, f9, f56, f86], by simp [f56], b_o40, l_o40, b_o54, l_o54, d_o40_o54⟩
            clear f0 f1 f7 f9 f56 f86 b_o40 l_o40 b_o54 l_o54 d_o40_o54
            rintro t H n ⟨f0, f1, f7, f9, f10, f56, b_o40, l_o40, b_o54, l_o54, d_o40_o54⟩
            refine Stk.on ?_
            refine Stk.bn ?_
            refine Stk.rg ?_
            refine Stk.run 2 (fun t H n => t 0 = .ssl (encs c97 a0) a0.length false ∧ t 1 = .ssl (encs c37 a1) a1.length false ∧ t 7 = .ssl (encs c97 x7.1) x7.1.length false ∧ t 9 = slc o40 v41.length co40 ∧ t 10 = slc o54 x53.length co54 ∧ t 56 = .sc (.int .i64 (IntKind.i64.wrap (v33 + 1))) ∧ OwnC H 2 1 c2 o40 co40 v41 ∧ (∀ i, o40 = some i → i < n) ∧ OwnC H 2 1 c2 o54 co54 x53 ∧ (∀ i, o54 = some i → i < n) ∧ (∀ i, o54 = some i → o40 ≠ some i)) (fun J hJ => ?_) ?_
            · simp [-splice, f0, f1, f7, f9, f10, f56]
              exact hJ _ _ _ ⟨by simp [f0], by simp [f1], by simp [f7], by simp [f9], by simp [f10], by simp [-splice, f0, f1, f7, f9, f10, f56], b_o40, l_o40, b_o54, l_o54, d_o40_o54⟩
            clear f0 f1 f7 f9 f10 f56 b_o40 l_o40 b_o54 l_o54 d_o40_o54
            rintro t H n ⟨f0, f1, f7, f9, f10, f56, b_o40, l_o40, b_o54, l_o54, d_o40_o54⟩
            refine Stk.on ?_
            exact Stk.ln μ (Nat.lt_succ_self _) (hJ6 _ _ _ _ ⟨o40, co40, v41, o54, co54, x53, (IntKind.i64.wrap (v33 + 1)), h, f0, f1, f7, f9, f10, f56, b_o40, l_o40, b_o54, l_o54, d_o40_o54⟩)
        · have h := cF hb39 h
          refine Stk.ex rfl ?_
          exact Stk.ln 0 (by decide) (hJ5 _ _ _ ⟨o29, co29, v30, o31, co31, v32, h, f0, f7, f9, f10, b_o29, l_o29, b_o31, l_o31, d_o29_o31⟩)
      clear h f0 f1 f7 f9 f10 f56 b_o12 l_o12 b_o11 l_o11 d_o12_o11
      rintro t H n ⟨o25, co25, v26, o27, co27, v28, h, f0, f7, f9, f10, b_o25, l_o25, b_o27, l_o27, d_o25_o27⟩
      subst hK5
      refine Stk.sq ?_
      refine Stk.rg ?_
      refine Stk.run 2 (fun t H n => t 0 = .ssl (encs c97 a0) a0.length false ∧ t 10 = slc o27 v28.length co27 ∧ t 89 = .ssl (encs c97 x7.1) x7.1.length false ∧ t 90 = slc o25 v26.length co25 ∧ OwnC H 2 1 c2 o25 co25 v26 ∧ (∀ i, o25 = some i → i < n) ∧ OwnC H 2 1 c2 o27 co27 v28 ∧ (∀ i, o27 = some i → i < n) ∧ (∀ i, o27 = some i → o25 ≠ some i)) (fun J hJ => ?_) ?_
      · simp [-splice, f0, f7, f9, f10]
        exact hJ _ _ _ ⟨by simp [f0], by simp [f10], by simp [-splice, f0, f7, f9, f10], by simp [-splice, f0, f7, f9, f10], b_o25, l_o25, b_o27, l_o27, d_o25_o27⟩
      clear f0 f7 f9 f10 b_o25 l_o25 b_o27 l_o27 d_o25_o27
      rintro t H n ⟨f0, f10, f89, f90, b_o25, l_o25, b_o27, l_o27, d_o25_o27⟩
      obtain ⟨x55, hx55, h⟩ := bnd h
      refine Stk.cv (g := 25) (args := [.ssl (encs c97 x7.1) x7.1.length false, slc o25 v26.length co25]) (args' := [.ssl (encs c97 x7.1) x7.1.length false, .ssl (encs c2 v26) v26.length false]) (v := .tup [.sc (.int .i64 x55.1), .sc (.int .i64 x55.2)]) o25.toList (ok_poly_At F _ _ _ hx55) (by simp [f0, f10, f89, f90]) rfl rfl (by simp [f0, f10, f89, f90]) (.cons (.free (freeL_encs fr97 _)) (.cons (view_ownC fr2 b_o25 (fun i hi => by simp [hi])) (.nil))) (.inr rfl) (fun t' ht' => ?_)
      refine Stk.gen (fun t H n => t 0 = .ssl (encs c97 a0) a0.length false ∧ t 10 = slc o27 v28.length co27 ∧ t 91 = .tup [.sc (.int .i64 x55.1), .sc (.int .i64 x55.2)] ∧ OwnC H 2 1 c2 o27 co27 v28 ∧ (∀ i, o27 = some i → i < n)) ⟨by simp [ht', f0], by simp [ht', f10], by simp [ht'], b_o27, l_o27⟩ ?_
      clear f0 f10 f89 f90 b_o25 l_o25 b_o27 l_o27 d_o25_o27 ht' t'
      rintro t H n ⟨f0, f10, f91, b_o27, l_o27⟩
      refine Stk.run 5 (fun t H n => t 0 = .ssl (encs c97 a0) a0.length false ∧ t 10 = slc o27 v28.length co27 ∧ t 16 = .sc (.int .i64 x55.1) ∧ t 17 = .sc (.int .i64 x55.2) ∧ OwnC H 2 1 c2 o27 co27 v28 ∧ (∀ i, o27 = some i → i < n)) (fun J hJ => ?_) ?_
      · simp [-splice, f0, f10, f91]
        exact hJ _ _ _ ⟨by simp [f0], by simp [f10], by simp [-splice, f0, f10, f91], by simp [-splice, f0, f10, f91], b_o27, l_o27⟩
      clear f0 f10 f91 b_o27 l_o27
      rintro t H n ⟨f0, f10, f16, f17, b_o27, l_o27⟩
      refine Stk.on ?_
      refine Stk.sq ?_
      refine Stk.rg ?_
      refine Stk.run 2 (fun t H n => t 16 = .sc (.int .i64 x55.1) ∧ t 17 = .sc (.int .i64 x55.2) ∧ t 95 = .ssl (encs c97 a0) a0.length false ∧ t 96 = slc o27 v28.length co27 ∧ OwnC H 2 1 c2 o27 co27 v28 ∧ (∀ i, o27 = some i → i < n)) (fun J hJ => ?_) ?_
      · simp [-splice, f0, f10, f16, f17]
        exact hJ _ _ _ ⟨by simp [f16], by simp [f17], by simp [-splice, f0, f10, f16, f17], by simp [-splice, f0, f10, f16, f17], b_o27, l_o27⟩
      clear f0 f10 f16 f17 b_o27 l_o27
      rintro t H n ⟨f16, f17, f95, f96, b_o27, l_o27⟩
      obtain ⟨x56, hx56, h⟩ := bnd h
      refine Stk.cv (g := 25) (args := [.ssl (encs c97 a0) a0.length false, slc o27 v28.length co27]) (args' := [.ssl (encs c97 a0) a0.length false, .ssl (encs c2 v28) v28.length false]) (v := .tup [.sc (.int .i64 x56.1), .sc (.int .i64 x56.2)]) o27.toList (ok_poly_At F _ _ _ hx56) (by simp [f16, f17, f95, f96]) rfl rfl (by simp [f16, f17, f95, f96]) (.cons (.free (freeL_encs fr97 _)) (.cons (view_ownC fr2 b_o27 (fun i hi => by simp [hi])) (.nil))) (.inr rfl) (fun t' ht' => ?_)
      refine Stk.gen (fun t H n => t 16 = .sc (.int .i64 x55.1) ∧ t 17 = .sc (.int .i64 x55.2) ∧ t 97 = .tup [.sc (.int .i64 x56.1), .sc (.int .i64 x56.2)]) ⟨by simp [ht', f16], by simp [ht', f17], by simp [ht']⟩ ?_
      clear f16 f17 f95 f96 b_o27 l_o27 ht' t'
      rintro t H n ⟨f16, f17, f97⟩
      refine Stk.run 5 (fun t H n => t 16 = .sc (.int .i64 x55.1) ∧ t 17 = .sc (.int .i64 x55.2) ∧ t 18 = .sc (.int .i64 x56.1) ∧ t 19 = .sc (.int .i64 x56.2)) (fun J hJ => ?_) ?_
      · simp [-splice, f16, f17, f97]
        exact hJ _ _ _ ⟨by simp [f16], by simp [f17], by simp [-splice, f16, f17, f97], by simp [-splice, f16, f17, f97]⟩
      clear f16 f17 f97
      rintro t H n ⟨f16, f17, f18, f19⟩
      refine Stk.on ?_
      refine Stk.sq ?_
      refine Stk.rg ?_
      refine Stk.run 4 (fun t H n => t 16 = .sc (.int .i64 x55.1) ∧ t 18 = .sc (.int .i64 x56.1) ∧ t 103 = .sc (.bool (x55.2 == x56.2))) (fun J hJ => ?_) ?_
      · simp [-splice, f16, f17, f18, f19]
        exact hJ _ _ _ ⟨by simp [f16], by simp [f18], by simp [-splice, f16, f17, f18, f19]⟩
      clear f16 f17 f18 f19
      rintro t H n ⟨f16, f18, f103⟩
      refine Stk.jo 4 (fun t H n => t 107 = .sc (.bool ((x55.2 == x56.2) && (x55.1 == x56.1)))) (fun J8 hJ8 => ?_) ?_
      · rcases Bool.eq_false_or_eq_true (x55.2 == x56.2) with hb8 | hb8
        · rw [hb8] at f103
          refine Stk.run 4 (fun t H n => t 107 = .sc (.bool (x55.1 == x56.1))) (fun J hJ => ?_) ?_
          · simp [-splice, f16, f18, f103]
            exact hJ _ _ _ (by simp [-splice, f16, f18, f103])
          clear f16 f18 f103
          rintro t H n f107
          refine Stk.on ?_
          exact Stk.ln 0 (by decide) (hJ8 _ _ _ (f107.trans (congrArg (fun q => AV.sc (.bool q)) (by rw [hb8]; rfl))))
        · rw [hb8] at f103
          refine Stk.run 4 (fun t H n => t 107 = .sc (.bool false)) (fun J hJ => ?_) ?_
          · simp [-splice, f16, f18, f103]
            exact hJ _ _ _ (by simp [-splice, f16, f18, f103])
          clear f16 f18 f103
          rintro t H n f107
          refine Stk.on ?_
          exact Stk.ln 0 (by decide) (hJ8 _ _ _ (f107.trans (congrArg (fun q => AV.sc (.bool q)) (by rw [hb8]; rfl))))
      clear f16 f18 f103
      rintro t H n f107
      refine Stk.run 1 (fun t H n => t 108 = .sc (.bool ((x55.2 == x56.2) && (x55.1 == x56.1)))) (fun J hJ => ?_) ?_
      · simp [-splice, f107]
        exact hJ _ _ _ (by simp [-splice, f107])
      clear f107
      rintro t H n f108
      obtain ⟨K9, hK9, h⟩ := jnd h
      refine Stk.jo 2 (fun t H n => ∃ v57 : Bool, K9 v57 = some r ∧ t 110 = .sc (.bool v57)) (fun J9 hJ9 => ?_) ?_
      · rcases Bool.eq_false_or_eq_true ((x55.2 == x56.2) && (x55.1 == x56.1)) with hb9 | hb9
        · rw [hb9] at f108
          replace h := cT hb9 h
          obtain ⟨x58, hx58, h⟩ := bnd h
          refine Stk.cv (g := 19) (args := []) (args' := []) (v := .sc (.bool x58)) [] (ok_L13_awake F  _ hx58) (by simp [f108]) rfl rfl (by simp [f108]) (.nil) (.inl ⟨rfl, rfl⟩) (fun t' ht' => ?_)
          refine Stk.gen (fun t H n => t 108 = .sc (.bool true) ∧ t 109 = .sc (.bool x58)) ⟨by simp [ht', f108], by simp [ht']⟩ ?_
          clear f108 ht' t'
          rintro t H n ⟨f108, f109⟩
          refine Stk.run 1 (fun t H n => t 110 = .sc (.bool x58)) (fun J hJ => ?_) ?_
          · simp [-splice, f108, f109]
            exact hJ _ _ _ (by simp [-splice, f108, f109])
          clear f108 f109
          rintro t H n f110
          refine Stk.on ?_
          exact Stk.ln 0 (by decide) (hJ9 _ _ _ ⟨x58, h, f110⟩)
        · rw [hb9] at f108
          replace h := cF hb9 h
          refine Stk.run 2 (fun t H n => t 110 = .sc (.bool false)) (fun J hJ => ?_) ?_
          · simp [-splice, f108]
            exact hJ _ _ _ (by simp [-splice, f108])
          clear f108
          rintro t H n f110
          refine Stk.on ?_
          exact Stk.ln 0 (by decide) (hJ9 _ _ _ ⟨false, h, f110⟩)
      clear h f108
      rintro t H n ⟨v57, h, f110⟩
      subst hK9
      refine Stk.run 1 (fun t H n => t 6 = .sc (.bool v57)) (fun J hJ => ?_) ?_
      · simp [-splice, f110]
        exact hJ _ _ _ (by simp [-splice, f110])
      clear f110
      rintro t H n f6
      refine Stk.on ?_
      refine Stk.rt ?_
      have hq := Option.some.inj h; subst hq
      exact (hr _ _ _ (.sc (.bool v57)) ([]) (by simp [f6]) (.inr (.inr (.free (rfl))))).1
end Go.Proofs.Ytfbkgjmpadknfaa.M
