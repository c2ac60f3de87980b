/-
  The functions come to them.
-/
import Derived.Test.YtappiofmkoelnaaTmM
import Derived.Test.YtappiofmkoelnaaTmW0
namespace Go.Proofs.Ytappiofmkoelnaa.M
open Go.Proofs.YtappiofmkoelnaaW.Ah Go.Proofs.Ytappiofmkoelnaa
set_option linter.unusedVariables false
set_option linter.unusedSimpArgs false
set_option maxRecDepth 8000
attribute [local simp] T.t3 T.t4 T.t9 T.t22 T.t30 T.t32 T.t33 T.t35 T.t37 T.t40 List.range List.range.loop
attribute [-simp] appendAV fillAV
theorem ok_L07_TyMore (F : Nat) (a0 : (List api_Data)) (a1 : (List api_Data)) (r : Bool) (h : L07_TyMore F a0 a1 = some r) : RunF Try.prog T.T 4 [.ssl (encs c32 a0) a0.length false, .ssl (encs c32 a1) a1.length false] (.sc (.bool r)) := by
  rw [L07_TyMore] at h
  refine RunF.z Try.func4 rfl rfl rfl rfl rfl (fun C hr => ?_)
  refine Stk.gen (fun t H n => t 0 = .ssl (encs c32 a0) a0.length false ∧ t 1 = .ssl (encs c32 a1) a1.length false) ⟨by simp, by simp⟩ ?_
  rintro t H n ⟨f0, f1⟩
  refine Stk.sq ?_
  refine Stk.rg ?_
  refine Stk.run 1 (fun t H n => t 0 = .ssl (encs c32 a0) a0.length false ∧ t 1 = .ssl (encs c32 a1) a1.length false) (fun J hJ => ?_) ?_
  · simp [-splice, f0, f1]
    exact hJ _ _ _ ⟨by simp [f0], by simp [f1]⟩
  clear f0 f1
  rintro t H n ⟨f0, f1⟩
  refine Stk.on ?_
  refine Stk.sq ?_
  refine Stk.sq ?_
  refine Stk.rg ?_
  refine Stk.run 1 (fun t H n => t 0 = .ssl (encs c32 a0) a0.length false ∧ t 1 = .ssl (encs c32 a1) a1.length false ∧ t 19 = .ssl (encs c32 a0) a0.length false) (fun J hJ => ?_) ?_
  · simp [-splice, f0, f1]
    exact hJ _ _ _ ⟨by simp [f0], by simp [f1], by simp [-splice, f0, f1]⟩
  clear f0 f1
  rintro t H n ⟨f0, f1, f19⟩
  obtain ⟨x1, hx1, h⟩ := bnd h
  refine Stk.cv (g := 6) (args := [.ssl (encs c32 a0) a0.length false]) (args' := [.ssl (encs c32 a0) a0.length false]) (v := .sc (.bool x1)) [] (ok_L07_light F _ _ hx1) (by simp [f0, f1, f19]) rfl rfl (by simp [f0, f1, f19]) (.cons (.free (freeL_encs fr32 _)) (.nil)) (.inl ⟨rfl, rfl⟩) (fun t' ht' => ?_)
  refine Stk.gen (fun t H n => t 0 = .ssl (encs c32 a0) a0.length false ∧ t 1 = .ssl (encs c32 a1) a1.length false ∧ t 20 = .sc (.bool x1)) ⟨by simp [ht', f0], by simp [ht', f1], by simp [ht']⟩ ?_
  clear f0 f1 f19 ht' t'
  rintro t H n ⟨f0, f1, f20⟩
  refine Stk.run 2 (fun t H n => t 0 = .ssl (encs c32 a0) a0.length false ∧ t 1 = .ssl (encs c32 a1) a1.length false ∧ t 22 = .sc (.bool (!x1))) (fun J hJ => ?_) ?_
  · simp [-splice, f0, f1, f20]
    exact hJ _ _ _ ⟨by simp [f0], by simp [f1], by simp [-splice, f0, f1, f20]⟩
  clear f0 f1 f20
  rintro t H n ⟨f0, f1, f22⟩
  obtain ⟨K1, hK1, h⟩ := jnd h
  refine Stk.jo 4 (fun t H n => ∃ v2 : Bool, K1 v2 = some r ∧ t 0 = .ssl (encs c32 a0) a0.length false ∧ t 1 = .ssl (encs c32 a1) a1.length false ∧ t 26 = .sc (.bool v2)) (fun J1 hJ1 => ?_) ?_
  · rcases Bool.eq_false_or_eq_true (!x1) with hb1 | hb1
    · rw [hb1] at f22
      replace h := cT hb1 h
      refine Stk.run 4 (fun t H n => t 0 = .ssl (encs c32 a0) a0.length false ∧ t 1 = .ssl (encs c32 a1) a1.length false ∧ t 26 = .sc (.bool true)) (fun J hJ => ?_) ?_
      · simp [-splice, f0, f1, f22]
        exact hJ _ _ _ ⟨by simp [f0], by simp [f1], by simp [-splice, f0, f1, f22]⟩
      clear f0 f1 f22
      rintro t H n ⟨f0, f1, f26⟩
      refine Stk.on ?_
      exact Stk.ln 0 (by decide) (hJ1 _ _ _ ⟨true, h, f0, f1, f26⟩)
    · rw [hb1] at f22
      replace h := cF hb1 h
      refine Stk.run 1 (fun t H n => t 0 = .ssl (encs c32 a0) a0.length false ∧ t 1 = .ssl (encs c32 a1) a1.length false ∧ t 22 = .sc (.bool false) ∧ t 23 = .ssl (encs c32 a1) a1.length false) (fun J hJ => ?_) ?_
      · simp [-splice, f0, f1, f22]
        exact hJ _ _ _ ⟨by simp [f0], by simp [f1], by simp [f22], by simp [-splice, f0, f1, f22]⟩
      clear f0 f1 f22
      rintro t H n ⟨f0, f1, f22, f23⟩
      obtain ⟨x3, hx3, h⟩ := bnd h
      refine Stk.cv (g := 6) (args := [.ssl (encs c32 a1) a1.length false]) (args' := [.ssl (encs c32 a1) a1.length false]) (v := .sc (.bool x3)) [] (ok_L07_light F _ _ hx3) (by simp [f0, f1, f22, f23]) rfl rfl (by simp [f0, f1, f22, f23]) (.cons (.free (freeL_encs fr32 _)) (.nil)) (.inl ⟨rfl, rfl⟩) (fun t' ht' => ?_)
      refine Stk.gen (fun t H n => t 0 = .ssl (encs c32 a0) a0.length false ∧ t 1 = .ssl (encs c32 a1) a1.length false ∧ t 22 = .sc (.bool false) ∧ t 24 = .sc (.bool x3)) ⟨by simp [ht', f0], by simp [ht', f1], by simp [ht', f22], by simp [ht']⟩ ?_
      clear f0 f1 f22 f23 ht' t'
      rintro t H n ⟨f0, f1, f22, f24⟩
      refine Stk.run 2 (fun t H n => t 0 = .ssl (encs c32 a0) a0.length false ∧ t 1 = .ssl (encs c32 a1) a1.length false ∧ t 26 = .sc (.bool (!x3))) (fun J hJ => ?_) ?_
      · simp [-splice, f0, f1, f22, f24]
        exact hJ _ _ _ ⟨by simp [f0], by simp [f1], by simp [-splice, f0, f1, f22, f24]⟩
      clear f0 f1 f22 f24
      rintro t H n ⟨f0, f1, f26⟩
      refine Stk.on ?_
      exact Stk.ln 0 (by decide) (hJ1 _ _ _ ⟨(!x3), h, f0, f1, f26⟩)
  clear h f0 f1 f22
  rintro t H n ⟨v2, h, f0, f1, f26⟩
  subst hK1
  refine Stk.on ?_
  refine Stk.cond v2 (by exact f26) (fun hb4 => ?_) (fun hb4 => ?_)
  · have h := cT hb4 h
    refine Stk.sq ?_
    refine Stk.rg ?_
    obtain ⟨x5, hx5, h⟩ := bnd h
    refine Stk.cv (g := 7) (args := []) (args' := []) (v := .sc (.bool x5)) [] (ok_L07_awake F  _ hx5) (by simp [f0, f1, f26]) rfl rfl (by simp [f0, f1, f26]) (.nil) (.inl ⟨rfl, rfl⟩) (fun t' ht' => ?_)
    refine Stk.gen (fun t H n => t 27 = .sc (.bool x5)) (by simp [ht']) ?_
    clear f0 f1 f26 ht' t'
    rintro t H n f27
    refine Stk.run 1 (fun t H n => t 4 = .sc (.bool x5)) (fun J hJ => ?_) ?_
    · simp [-splice, f27]
      exact hJ _ _ _ (by simp [-splice, f27])
    clear f27
    rintro t H n f4
    refine Stk.on ?_
    refine Stk.rt ?_
    have hq := Option.some.inj h; subst hq
    exact (hr _ _ _ (.sc (.bool x5)) ([]) (by simp [f4]) (.inr (.inr (.free (rfl))))).1
  · have h := cF hb4 h
    refine Stk.sk ?_
    refine Stk.sq ?_
    refine Stk.rg ?_
    refine Stk.om (mop_buildN (c := c32) (z := 4) T.t22 rfl T.t32 rfl (by decide) rfl (by decide) [] rfl (.nil)) (by simp [f0, f1, f26]) rfl (fun t' ht' => ?_)
    refine Stk.gen (fun t H n => ∃ b6, t 0 = .ssl (encs c32 a0) a0.length false ∧ t 1 = .ssl (encs c32 a1) a1.length false ∧ t 28 = .osl b6 0 ([] : List api_Data).length (some ([] : List api_Data).length) ∧ H b6 = some (.cells (encs c32 ([] : List api_Data)) 32) ∧ b6 < n) ⟨n, by simp [ht', f0], by simp [ht', f1], by simp [ht'], upd_same _ _ _, Nat.lt_succ_self _⟩ ?_
    clear f0 f1 f26 ht' t'
    rintro t H n ⟨b6, f0, f1, f28, b_b6, l_b6⟩
    refine Stk.run 1 (fun t H n => t 0 = .ssl (encs c32 a0) a0.length false ∧ t 1 = .ssl (encs c32 a1) a1.length false ∧ t 28 = .osl b6 0 ([] : List api_Data).length (some ([] : List api_Data).length) ∧ t 29 = .ssl (encs c32 a0) a0.length false ∧ H b6 = some (.cells (encs c32 ([] : List api_Data)) 32) ∧ b6 < n) (fun J hJ => ?_) ?_
    · simp [-splice, f0, f1, f28, b_b6]
      exact hJ _ _ _ ⟨by simp [f0], by simp [f1], by simp [f28], by simp [-splice, f0, f1, f28, b_b6], b_b6, l_b6⟩
    clear f0 f1 f28 b_b6 l_b6
    rintro t H n ⟨f0, f1, f28, f29, b_b6, l_b6⟩
    obtain ⟨x7, hx7, h⟩ := bnd h
    obtain ⟨r1x7, r2x7, r3x7⟩ := appM_ok hx7
    obtain ⟨o8, co8, H9, n9, e9, w9, le9, fr9, kp9⟩ := append_ownC (e := c32) (z := 4) (st := 22) T.t22 rfl T.t32 rfl (by decide) rfl (by decide) (ownC_row b_b6) (fun i hi => by cases hi; exact l_b6) (y := .ssl (encs c32 a0) a0.length false) a0 (elems_ssl) (all_encs ok32 _) r1x7 r2x7
    rw [r3x7] at e9 w9
    refine Stk.om ((mop_append T.t22 rfl).trans (by rw [show ev t (.tmp 28) = t 28 from rfl, f28]; rw [show ev t (.tmp 29) = t 29 from rfl, f29];  exact e9)) (by simp [f0, f1, f28, f29]) rfl (fun t' ht' => ?_)
    refine Stk.gen (fun t H n => t 0 = .ssl (encs c32 a0) a0.length false ∧ t 1 = .ssl (encs c32 a1) a1.length false ∧ t 30 = slc o8 x7.length co8 ∧ OwnC H 32 4 c32 o8 co8 x7 ∧ (∀ i, o8 = some i → i < n)) ⟨by simp [ht', f0], by simp [ht', f1], by simp [ht'], w9, fun i hi => (fr9 i hi).2⟩ ?_
    clear f0 f1 f28 f29 b_b6 l_b6 ht' t'
    rintro t H n ⟨f0, f1, f30, b_o8, l_o8⟩
    refine Stk.run 1 (fun t H n => t 0 = .ssl (encs c32 a0) a0.length false ∧ t 30 = slc o8 x7.length co8 ∧ t 31 = .ssl (encs c32 a1) a1.length false ∧ OwnC H 32 4 c32 o8 co8 x7 ∧ (∀ i, o8 = some i → i < n)) (fun J hJ => ?_) ?_
    · simp [-splice, f0, f1, f30]
      exact hJ _ _ _ ⟨by simp [f0], by simp [f30], by simp [-splice, f0, f1, f30], b_o8, l_o8⟩
    clear f0 f1 f30 b_o8 l_o8
    rintro t H n ⟨f0, f30, f31, b_o8, l_o8⟩
    obtain ⟨x9, hx9, h⟩ := bnd h
    obtain ⟨r1x9, r2x9, r3x9⟩ := appM_ok hx9
    obtain ⟨o10, co10, H9, n9, e9, w9, le9, fr9, kp9⟩ := append_ownC (e := c32) (z := 4) (st := 22) T.t22 rfl T.t32 rfl (by decide) rfl (by decide) b_o8 l_o8 (y := .ssl (encs c32 a1) a1.length false) a1 (elems_ssl) (all_encs ok32 _) r1x9 r2x9
    rw [r3x9] at e9 w9
    refine Stk.om ((mop_append T.t22 rfl).trans (by rw [show ev t (.tmp 30) = t 30 from rfl, f30]; rw [show ev t (.tmp 31) = t 31 from rfl, f31];  exact e9)) (by simp [f0, f30, f31]) rfl (fun t' ht' => ?_)
    refine Stk.gen (fun t H n => t 0 = .ssl (encs c32 a0) a0.length false ∧ t 32 = slc o10 x9.length co10 ∧ OwnC H 32 4 c32 o10 co10 x9 ∧ (∀ i, o10 = some i → i < n)) ⟨by simp [ht', f0], by simp [ht'], w9, fun i hi => (fr9 i hi).2⟩ ?_
    clear f0 f30 f31 b_o8 l_o8 ht' t'
    rintro t H n ⟨f0, f32, b_o10, l_o10⟩
    refine Stk.run 1 (fun t H n => t 0 = .ssl (encs c32 a0) a0.length false ∧ t 5 = slc o10 x9.length co10 ∧ OwnC H 32 4 c32 o10 co10 x9 ∧ (∀ i, o10 = some i → i < n)) (fun J hJ => ?_) ?_
    · simp [-splice, f0, f32]
      exact hJ _ _ _ ⟨by simp [f0], by simp [-splice, f0, f32], b_o10, l_o10⟩
    clear f0 f32 b_o10 l_o10
    rintro t H n ⟨f0, f5, b_o10, l_o10⟩
    refine Stk.wkf trivial o10.toList 5 (.ssl (encs c32 x9) x9.length false) (by rw [f5]; exact .inr (.inr (view_ownC fr32 b_o10 (fun i hi => by simp [hi])))) (fun t' H' ht' hH' => ?_)
    refine Stk.gen (fun t H n => t 0 = .ssl (encs c32 a0) a0.length false ∧ t 5 = .ssl (encs c32 x9) x9.length false) ⟨by simp [ht', f0], by simp [ht', f5]⟩ ?_
    clear f0 f5 b_o10 l_o10 hH' ht' t' H'
    rintro t H n ⟨f0, f5⟩
    refine Stk.on ?_
    refine Stk.sq ?_
    refine Stk.rg ?_
    refine Stk.run 1 (fun t H n => t 0 = .ssl (encs c32 a0) a0.length false ∧ t 5 = .ssl (encs c32 x9) x9.length false ∧ t 33 = .ssl (encs c32 a0) a0.length false) (fun J hJ => ?_) ?_
    · simp [-splice, f0, f5]
      exact hJ _ _ _ ⟨by simp [f0], by simp [f5], by simp [-splice, f0, f5]⟩
    clear f0 f5
    rintro t H n ⟨f0, f5, f33⟩
    obtain ⟨x11, hx11, h⟩ := bnd h
    refine Stk.cv (g := 10) (args := [.ssl (encs c32 a0) a0.length false]) (args' := [.ssl (encs c32 a0) a0.length false]) (v := .ssl (encs c4 x11) x11.length false) [] (ok_ty_Full F _ _ hx11) (by simp [f0, f5, f33]) rfl rfl (by simp [f0, f5, f33]) (.cons (.free (freeL_encs fr32 _)) (.nil)) (.inl ⟨rfl, freeL_encs fr4 _⟩) (fun t' ht' => ?_)
    refine Stk.gen (fun t H n => t 0 = .ssl (encs c32 a0) a0.length false ∧ t 5 = .ssl (encs c32 x9) x9.length false ∧ t 34 = .ssl (encs c4 x11) x11.length false) ⟨by simp [ht', f0], by simp [ht', f5], by simp [ht']⟩ ?_
    clear f0 f5 f33 ht' t'
    rintro t H n ⟨f0, f5, f34⟩
    refine Stk.run 1 (fun t H n => t 0 = .ssl (encs c32 a0) a0.length false ∧ t 5 = .ssl (encs c32 x9) x9.length false ∧ t 34 = .ssl (encs c4 x11) x11.length false ∧ t 35 = .ssl (encs c32 x9) x9.length false) (fun J hJ => ?_) ?_
    · simp [-splice, f0, f5, f34]
      exact hJ _ _ _ ⟨by simp [f0], by simp [f5], by simp [f34], by simp [-splice, f0, f5, f34]⟩
    clear f0 f5 f34
    rintro t H n ⟨f0, f5, f34, f35⟩
    obtain ⟨x12, hx12, h⟩ := bnd h
    refine Stk.cv (g := 10) (args := [.ssl (encs c32 x9) x9.length false]) (args' := [.ssl (encs c32 x9) x9.length false]) (v := .ssl (encs c4 x12) x12.length false) [] (ok_ty_Full F _ _ hx12) (by simp [f0, f5, f34, f35]) rfl rfl (by simp [f0, f5, f34, f35]) (.cons (.free (freeL_encs fr32 _)) (.nil)) (.inl ⟨rfl, freeL_encs fr4 _⟩) (fun t' ht' => ?_)
    refine Stk.gen (fun t H n => t 0 = .ssl (encs c32 a0) a0.length false ∧ t 5 = .ssl (encs c32 x9) x9.length false ∧ t 34 = .ssl (encs c4 x11) x11.length false ∧ t 36 = .ssl (encs c4 x12) x12.length false) ⟨by simp [ht', f0], by simp [ht', f5], by simp [ht', f34], by simp [ht']⟩ ?_
    clear f0 f5 f34 f35 ht' t'
    rintro t H n ⟨f0, f5, f34, f36⟩
    refine Stk.run 2 (fun t H n => t 0 = .ssl (encs c32 a0) a0.length false ∧ t 5 = .ssl (encs c32 x9) x9.length false ∧ t 6 = .ssl (encs c4 x11) x11.length false ∧ t 7 = .ssl (encs c4 x12) x12.length false) (fun J hJ => ?_) ?_
    · simp [-splice, f0, f5, f34, f36]
      exact hJ _ _ _ ⟨by simp [f0], by simp [f5], by simp [-splice, f0, f5, f34, f36], by simp [-splice, f0, f5, f34, f36]⟩
    clear f0 f5 f34 f36
    rintro t H n ⟨f0, f5, f6, f7⟩
    refine Stk.on ?_
    refine Stk.sq ?_
    refine Stk.sq ?_
    refine Stk.rg ?_
    refine Stk.run 6 (fun t H n => t 0 = .ssl (encs c32 a0) a0.length false ∧ t 5 = .ssl (encs c32 x9) x9.length false ∧ t 6 = .ssl (encs c4 x11) x11.length false ∧ t 7 = .ssl (encs c4 x12) x12.length false ∧ t 42 = .sc (.bool ((x11.length : Int) != (a0.length : Int)))) (fun J hJ => ?_) ?_
    · simp [-splice, f0, f5, f6, f7]
      exact hJ _ _ _ ⟨by simp [f0], by simp [f5], by simp [f6], by simp [f7], by simp [-splice, f0, f5, f6, f7]⟩
    clear f0 f5 f6 f7
    rintro t H n ⟨f0, f5, f6, f7, f42⟩
    refine Stk.jo 6 (fun t H n => t 0 = .ssl (encs c32 a0) a0.length false ∧ t 6 = .ssl (encs c4 x11) x11.length false ∧ t 7 = .ssl (encs c4 x12) x12.length false ∧ t 48 = .sc (.bool (((x11.length : Int) != (a0.length : Int)) || ((x12.length : Int) != (x9.length : Int))))) (fun J2 hJ2 => ?_) ?_
    · rcases Bool.eq_false_or_eq_true ((x11.length : Int) != (a0.length : Int)) with hb2 | hb2
      · rw [hb2] at f42
        refine Stk.run 6 (fun t H n => t 0 = .ssl (encs c32 a0) a0.length false ∧ t 6 = .ssl (encs c4 x11) x11.length false ∧ t 7 = .ssl (encs c4 x12) x12.length false ∧ t 48 = .sc (.bool true)) (fun J hJ => ?_) ?_
        · simp [-splice, f0, f5, f6, f7, f42]
          exact hJ _ _ _ ⟨by simp [f0], by simp [f6], by simp [f7], by simp [-splice, f0, f5, f6, f7, f42]⟩
        clear f0 f5 f6 f7 f42
        rintro t H n ⟨f0, f6, f7, f48⟩
        refine Stk.on ?_
        exact Stk.ln 0 (by decide) (hJ2 _ _ _ ⟨f0, f6, f7, f48.trans (congrArg (fun q => AV.sc (.bool q)) (by rw [hb2]; rfl))⟩)
      · rw [hb2] at f42
        refine Stk.run 6 (fun t H n => t 0 = .ssl (encs c32 a0) a0.length false ∧ t 6 = .ssl (encs c4 x11) x11.length false ∧ t 7 = .ssl (encs c4 x12) x12.length false ∧ t 48 = .sc (.bool ((x12.length : Int) != (x9.length : Int)))) (fun J hJ => ?_) ?_
        · simp [-splice, f0, f5, f6, f7, f42]
          exact hJ _ _ _ ⟨by simp [f0], by simp [f6], by simp [f7], by simp [-splice, f0, f5, f6, f7, f42]⟩
        clear f0 f5 f6 f7 f42
        rintro t H n ⟨f0, f6, f7, f48⟩
        refine Stk.on ?_
        exact Stk.ln 0 (by decide) (hJ2 _ _ _ ⟨f0, f6, f7, f48.trans (congrArg (fun q => AV.sc (.bool q)) (by rw [hb2]; rfl))⟩)
    clear f0 f5 f6 f7 f42
    rintro t H n ⟨f0, f6, f7, f48⟩
    refine Stk.on ?_
    refine Stk.cond (((x11.length : Int) != (a0.length : Int)) || ((x12.length : Int) != (x9.length : Int))) (by exact f48) (fun hb13 => ?_) (fun hb13 => ?_)
    · have h := cT hb13 h
      refine Stk.sq ?_
      refine Stk.rg ?_
      refine Stk.run 1 (fun t H n => t 4 = .sc (.bool false)) (fun J hJ => ?_) ?_
      · simp [-splice, f0, f6, f7, f48]
        exact hJ _ _ _ (by simp [-splice, f0, f6, f7, f48])
      clear f0 f6 f7 f48
      rintro t H n f4
      refine Stk.on ?_
      refine Stk.rt ?_
      have hq := Option.some.inj h; subst hq
      exact (hr _ _ _ (.sc (.bool false)) ([]) (by simp [f4]) (.inr (.inr (.free (rfl))))).1
    · have h := cF hb13 h
      refine Stk.sk ?_
      refine Stk.sq ?_
      refine Stk.rg ?_
      refine Stk.run 1 (fun t H n => t 0 = .ssl (encs c32 a0) a0.length false ∧ t 6 = .ssl (encs c4 x11) x11.length false ∧ t 7 = .ssl (encs c4 x12) x12.length false ∧ t 8 = .sc (.bool true)) (fun J hJ => ?_) ?_
      · simp [-splice, f0, f6, f7, f48]
        exact hJ _ _ _ ⟨by simp [f0], by simp [f6], by simp [f7], by simp [-splice, f0, f6, f7, f48]⟩
      clear f0 f6 f7 f48
      rintro t H n ⟨f0, f6, f7, f8⟩
      refine Stk.on ?_
      refine Stk.sq ?_
      refine Stk.sq ?_
      refine Stk.rg ?_
      refine Stk.run 3 (fun t H n => t 0 = .ssl (encs c32 a0) a0.length false ∧ t 6 = .ssl (encs c4 x11) x11.length false ∧ t 7 = .ssl (encs c4 x12) x12.length false ∧ t 8 = .sc (.bool true) ∧ t 49 = .ssl (encs c32 a0) a0.length false ∧ t 50 = .sc (.int .i64 (a0.length : Int)) ∧ t 51 = .sc (.int .i64 0)) (fun J hJ => ?_) ?_
      · simp [-splice, f0, f6, f7, f8]
        exact hJ _ _ _ ⟨by simp [f0], by simp [f6], by simp [f7], by simp [f8], by simp [-splice, f0, f6, f7, f8], by simp [-splice, f0, f6, f7, f8], by simp [-splice, f0, f6, f7, f8]⟩
      clear f0 f6 f7 f8
      rintro t H n ⟨f0, f6, f7, f8, f49, f50, f51⟩
      refine Stk.on ?_
      obtain ⟨K3, hK3, h⟩ := jnd h
      refine Stk.jn (fun t H n => ∃ v14 : Bool, K3 v14 = some r ∧ t 0 = .ssl (encs c32 a0) a0.length false ∧ t 6 = .ssl (encs c4 x11) x11.length false ∧ t 7 = .ssl (encs c4 x12) x12.length false ∧ t 8 = .sc (.bool v14)) trivial (fun J3 hJ3 => ?_) ?_
      · skip
        refine Stk.bk ?_
        refine Stk.lo (fun μ t H n => ∃ v15 : Bool, ∃ v16 : Int, L07_TyMore_L0 F a0 x11 K3 μ v15 v16 = some r ∧ t 0 = .ssl (encs c32 a0) a0.length false ∧ t 6 = .ssl (encs c4 x11) x11.length false ∧ t 7 = .ssl (encs c4 x12) x12.length false ∧ t 8 = .sc (.bool v15) ∧ t 49 = .ssl (encs c32 a0) a0.length false ∧ t 50 = .sc (.int .i64 (a0.length : Int)) ∧ t 51 = .sc (.int .i64 v16)) F ⟨true, 0, h, f0, f6, f7, f8, f49, f50, f51⟩ ?_
        clear h f0 f6 f7 f8 f49 f50 f51
        rintro J4 hJ4 μ t H n ⟨v15, v16, h, f0, f6, f7, f8, f49, f50, f51⟩
        cases μ with
        | zero => exact absurd h (by simp [L07_TyMore_L0])
        | succ μ =>
        rw [L07_TyMore_L0] at h
        refine Stk.sq ?_
        refine Stk.rg ?_
        refine Stk.run 1 (fun t H n => t 0 = .ssl (encs c32 a0) a0.length false ∧ t 6 = .ssl (encs c4 x11) x11.length false ∧ t 7 = .ssl (encs c4 x12) x12.length false ∧ t 8 = .sc (.bool v15) ∧ t 49 = .ssl (encs c32 a0) a0.length false ∧ t 50 = .sc (.int .i64 (a0.length : Int)) ∧ t 51 = .sc (.int .i64 v16) ∧ t 52 = .sc (.bool (decide (v16 < (a0.length : Int))))) (fun J hJ => ?_) ?_
        · simp [-splice, f0, f6, f7, f8, f49, f50, f51]
          exact hJ _ _ _ ⟨by simp [f0], by simp [f6], by simp [f7], by simp [f8], by simp [f49], by simp [f50], by simp [f51], by simp [-splice, f0, f6, f7, f8, f49, f50, f51]⟩
        clear f0 f6 f7 f8 f49 f50 f51
        rintro t H n ⟨f0, f6, f7, f8, f49, f50, f51, f52⟩
        refine Stk.on ?_
        refine Stk.sq ?_
        refine Stk.cond (decide (v16 < (a0.length : Int))) (by exact f52) (fun hb19 => ?_) (fun hb19 => ?_)
        · have h := cT hb19 h
          refine Stk.sk ?_
          refine Stk.sq ?_
          refine Stk.bk ?_
          refine Stk.sq ?_
          refine Stk.rg ?_
          obtain ⟨x20, hx20, h⟩ := bnd h
          obtain ⟨i0x20, i1x20, i2x20, _⟩ := idx_ok hx20
          have ex20_0_32 : partOf T.T 32 (encs c32 a0) (v16.toNat * 4) = some (.agg (c32 x20)) := by
              have e0 := part_elem0 (e := c32) (z := 4) (T := T.T) (ty := 32) T.t32 (by decide) (by decide) hx20 0 (by decide)
              (try simp only [Nat.mul_one, Nat.add_zero] at e0)
              exact e0.trans (ld_32_0_32 _)
          refine Stk.run 3 (fun t H n => t 0 = .ssl (encs c32 a0) a0.length false ∧ t 6 = .ssl (encs c4 x11) x11.length false ∧ t 7 = .ssl (encs c4 x12) x12.length false ∧ t 8 = .sc (.bool v15) ∧ t 49 = .ssl (encs c32 a0) a0.length false ∧ t 50 = .sc (.int .i64 (a0.length : Int)) ∧ t 51 = .sc (.int .i64 v16) ∧ t 53 = .sc (.int .i64 v16) ∧ t 55 = .agg (c32 x20)) (fun J hJ => ?_) ?_
          · simp [-splice, f0, f6, f7, f8, f49, f50, f51, f52, i0x20, i1x20, pd32, ex20_0_32]
            exact hJ _ _ _ ⟨by simp [f0], by simp [f6], by simp [f7], by simp [f8], by simp [f49], by simp [f50], by simp [f51], by simp [-splice, f0, f6, f7, f8, f49, f50, f51, f52, i0x20, i1x20, pd32, ex20_0_32], by simp [-splice, f0, f6, f7, f8, f49, f50, f51, f52, i0x20, i1x20, pd32, ex20_0_32]⟩
          clear f0 f6 f7 f8 f49 f50 f51 f52
          rintro t H n ⟨f0, f6, f7, f8, f49, f50, f51, f53, f55⟩
          refine Stk.oz T.t32 (cs := c32 (api_Data.mk (api_Pos.mk 0 0) ⟨#[]⟩ [])) (by rfl) rfl (by simp [f0, f6, f7, f8, f49, f50, f51, f53, f55]) rfl (fun t' ht' => ?_)
          refine Stk.gen (fun t H n => ∃ b21, t 0 = .ssl (encs c32 a0) a0.length false ∧ t 6 = .ssl (encs c4 x11) x11.length false ∧ t 7 = .ssl (encs c4 x12) x12.length false ∧ t 8 = .sc (.bool v15) ∧ t 10 = .own b21 0 ∧ t 49 = .ssl (encs c32 a0) a0.length false ∧ t 50 = .sc (.int .i64 (a0.length : Int)) ∧ t 51 = .sc (.int .i64 v16) ∧ t 53 = .sc (.int .i64 v16) ∧ t 55 = .agg (c32 x20) ∧ H b21 = some (.cells (c32 (api_Data.mk (api_Pos.mk 0 0) ⟨#[]⟩ [])) 32) ∧ b21 < n) ⟨n, by simp [ht', f0], by simp [ht', f6], by simp [ht', f7], by simp [ht', f8], by simp [ht'], by simp [ht', f49], by simp [ht', f50], by simp [ht', f51], by simp [ht', f53], by simp [ht', f55], upd_same _ _ _, Nat.lt_succ_self _⟩ ?_
          clear f0 f6 f7 f8 f49 f50 f51 f53 f55 ht' t'
          rintro t H n ⟨b21, f0, f6, f7, f8, f10, f49, f50, f51, f53, f55, b_b21, l_b21⟩
          refine Stk.run 1 (fun t H n => t 0 = .ssl (encs c32 a0) a0.length false ∧ t 6 = .ssl (encs c4 x11) x11.length false ∧ t 7 = .ssl (encs c4 x12) x12.length false ∧ t 8 = .sc (.bool v15) ∧ t 9 = .sc (.int .i64 v16) ∧ t 10 = .own b21 0 ∧ t 49 = .ssl (encs c32 a0) a0.length false ∧ t 50 = .sc (.int .i64 (a0.length : Int)) ∧ t 51 = .sc (.int .i64 v16) ∧ t 55 = .agg (c32 x20) ∧ H b21 = some (.cells (c32 (api_Data.mk (api_Pos.mk 0 0) ⟨#[]⟩ [])) 32) ∧ b21 < n) (fun J hJ => ?_) ?_
          · simp [-splice, f0, f6, f7, f8, f10, f49, f50, f51, f53, f55, b_b21]
            exact hJ _ _ _ ⟨by simp [f0], by simp [f6], by simp [f7], by simp [f8], by simp [-splice, f0, f6, f7, f8, f10, f49, f50, f51, f53, f55, b_b21], by simp [f10], by simp [f49], by simp [f50], by simp [f51], by simp [f55], b_b21, l_b21⟩
          clear f0 f6 f7 f8 f10 f49 f50 f51 f53 f55 b_b21 l_b21
          rintro t H n ⟨f0, f6, f7, f8, f9, f10, f49, f50, f51, f55, b_b21, l_b21⟩
          refine Stk.om (mop_store (z := 4) rfl f10 b_b21 f55 (len32 _) (by rw [len32]; decide) (ok32 _) (st_32_0_32 _ _)) (by simp [f0, f6, f7, f8, f9, f10, f49, f50, f51, f55]) rfl (fun t' ht' => ?_)
          refine Stk.gen (fun t H n => t 0 = .ssl (encs c32 a0) a0.length false ∧ t 6 = .ssl (encs c4 x11) x11.length false ∧ t 7 = .ssl (encs c4 x12) x12.length false ∧ t 8 = .sc (.bool v15) ∧ t 9 = .sc (.int .i64 v16) ∧ t 10 = .own b21 0 ∧ t 49 = .ssl (encs c32 a0) a0.length false ∧ t 50 = .sc (.int .i64 (a0.length : Int)) ∧ t 51 = .sc (.int .i64 v16) ∧ H b21 = some (.cells (c32 x20) 32) ∧ b21 < n) ⟨by simp [ht', f0], by simp [ht', f6], by simp [ht', f7], by simp [ht', f8], by simp [ht', f9], by simp [ht', f10], by simp [ht', f49], by simp [ht', f50], by simp [ht', f51], upd_same _ _ _, l_b21⟩ ?_
          clear f0 f6 f7 f8 f9 f10 f49 f50 f51 f55 b_b21 l_b21 ht' t'
          rintro t H n ⟨f0, f6, f7, f8, f9, f10, f49, f50, f51, b_b21, l_b21⟩
          refine Stk.on ?_
          refine Stk.sq ?_
          refine Stk.rg ?_
          refine Stk.run 2 (fun t H n => t 0 = .ssl (encs c32 a0) a0.length false ∧ t 6 = .ssl (encs c4 x11) x11.length false ∧ t 7 = .ssl (encs c4 x12) x12.length false ∧ t 8 = .sc (.bool v15) ∧ t 9 = .sc (.int .i64 v16) ∧ t 10 = .own b21 0 ∧ t 11 = .sc (.bool false) ∧ t 12 = .sc (.bool true) ∧ t 49 = .ssl (encs c32 a0) a0.length false ∧ t 50 = .sc (.int .i64 (a0.length : Int)) ∧ t 51 = .sc (.int .i64 v16) ∧ H b21 = some (.cells (c32 x20) 32) ∧ b21 < n) (fun J hJ => ?_) ?_
          · simp [-splice, f0, f6, f7, f8, f9, f10, f49, f50, f51, b_b21]
            exact hJ _ _ _ ⟨by simp [f0], by simp [f6], by simp [f7], by simp [f8], by simp [f9], by simp [f10], by simp [-splice, f0, f6, f7, f8, f9, f10, f49, f50, f51, b_b21], by simp [-splice, f0, f6, f7, f8, f9, f10, f49, f50, f51, b_b21], by simp [f49], by simp [f50], by simp [f51], b_b21, l_b21⟩
          clear f0 f6 f7 f8 f9 f10 f49 f50 f51 b_b21 l_b21
          rintro t H n ⟨f0, f6, f7, f8, f9, f10, f11, f12, f49, f50, f51, b_b21, l_b21⟩
          refine Stk.on ?_
          refine Stk.sq ?_
          refine Stk.sq ?_
          refine Stk.rg ?_
          refine Stk.run 4 (fun t H n => t 0 = .ssl (encs c32 a0) a0.length false ∧ t 6 = .ssl (encs c4 x11) x11.length false ∧ t 7 = .ssl (encs c4 x12) x12.length false ∧ t 8 = .sc (.bool v15) ∧ t 9 = .sc (.int .i64 v16) ∧ t 10 = .own b21 0 ∧ t 11 = .sc (.bool false) ∧ t 12 = .sc (.bool true) ∧ t 49 = .ssl (encs c32 a0) a0.length false ∧ t 50 = .sc (.int .i64 (a0.length : Int)) ∧ t 51 = .sc (.int .i64 v16) ∧ t 57 = .ssl (encs c35 x20.Cons) x20.Cons.length false ∧ t 58 = .sc (.int .i64 (x20.Cons.length : Int)) ∧ t 59 = .sc (.int .i64 0) ∧ H b21 = some (.cells (c32 x20) 32) ∧ b21 < n) (fun J hJ => ?_) ?_
          · simp [-splice, f0, f6, f7, f8, f9, f10, f11, f12, f49, f50, f51, b_b21, ld_32_3_30]
            exact hJ _ _ _ ⟨by simp [f0], by simp [f6], by simp [f7], by simp [f8], by simp [f9], by simp [f10], by simp [f11], by simp [f12], by simp [f49], by simp [f50], by simp [f51], by simp [-splice, f0, f6, f7, f8, f9, f10, f11, f12, f49, f50, f51, b_b21, ld_32_3_30], by simp [-splice, f0, f6, f7, f8, f9, f10, f11, f12, f49, f50, f51, b_b21, ld_32_3_30], by simp [-splice, f0, f6, f7, f8, f9, f10, f11, f12, f49, f50, f51, b_b21, ld_32_3_30], b_b21, l_b21⟩
          clear f0 f6 f7 f8 f9 f10 f11 f12 f49 f50 f51 b_b21 l_b21
          rintro t H n ⟨f0, f6, f7, f8, f9, f10, f11, f12, f49, f50, f51, f57, f58, f59, b_b21, l_b21⟩
          refine Stk.on ?_
          obtain ⟨K5, hK5, h⟩ := jnd h
          refine Stk.jn (fun t H n => ∃ v22 : Bool, ∃ v23 : Bool, ∃ v24 : Bool, K5 v22 v23 v24 = some r ∧ t 0 = .ssl (encs c32 a0) a0.length false ∧ t 6 = .ssl (encs c4 x11) x11.length false ∧ t 7 = .ssl (encs c4 x12) x12.length false ∧ t 8 = .sc (.bool v22) ∧ t 9 = .sc (.int .i64 v16) ∧ t 10 = .own b21 0 ∧ t 11 = .sc (.bool v23) ∧ t 12 = .sc (.bool v24) ∧ t 49 = .ssl (encs c32 a0) a0.length false ∧ t 50 = .sc (.int .i64 (a0.length : Int)) ∧ t 51 = .sc (.int .i64 v16) ∧ H b21 = some (.cells (c32 x20) 32) ∧ b21 < n) trivial (fun J5 hJ5 => ?_) ?_
          · skip
            refine Stk.bk ?_
            refine Stk.lo (fun μ t H n => ∃ v25 : Bool, ∃ v26 : Bool, ∃ v27 : Bool, ∃ v28 : Int, L07_TyMore_L1 F a0 x20 K5 μ v25 v26 v27 v28 = some r ∧ t 0 = .ssl (encs c32 a0) a0.length false ∧ t 6 = .ssl (encs c4 x11) x11.length false ∧ t 7 = .ssl (encs c4 x12) x12.length false ∧ t 8 = .sc (.bool v25) ∧ t 9 = .sc (.int .i64 v16) ∧ t 10 = .own b21 0 ∧ t 11 = .sc (.bool v26) ∧ t 12 = .sc (.bool v27) ∧ t 49 = .ssl (encs c32 a0) a0.length false ∧ t 50 = .sc (.int .i64 (a0.length : Int)) ∧ t 51 = .sc (.int .i64 v16) ∧ t 57 = .ssl (encs c35 x20.Cons) x20.Cons.length false ∧ t 58 = .sc (.int .i64 (x20.Cons.length : Int)) ∧ t 59 = .sc (.int .i64 v28) ∧ H b21 = some (.cells (c32 x20) 32) ∧ b21 < n) F ⟨v15, false, true, 0, h, f0, f6, f7, f8, f9, f10, f11, f12, f49, f50, f51, f57, f58, f59, b_b21, l_b21⟩ ?_
            clear h f0 f6 f7 f8 f9 f10 f11 f12 f49 f50 f51 f57 f58 f59 b_b21 l_b21
            rintro J6 hJ6 μ t H n ⟨v25, v26, v27, v28, h, f0, f6, f7, f8, f9, f10, f11, f12, f49, f50, f51, f57, f58, f59, b_b21, l_b21⟩
            cases μ with
            | zero => exact absurd h (by simp [L07_TyMore_L1])
            | succ μ =>
            rw [L07_TyMore_L1] at h
            refine Stk.sq ?_
            refine Stk.rg ?_
            refine Stk.run 1 (fun t H n => t 0 = .ssl (encs c32 a0) a0.length false ∧ t 6 = .ssl (encs c4 x11) x11.length false ∧ t 7 = .ssl (encs c4 x12) x12.length false ∧ t 8 = .sc (.bool v25) ∧ t 9 = .sc (.int .i64 v16) ∧ t 10 = .own b21 0 ∧ t 11 = .sc (.bool v26) ∧ t 12 = .sc (.bool v27) ∧ t 49 = .ssl (encs c32 a0) a0.length false ∧ t 50 = .sc (.int .i64 (a0.length : Int)) ∧ t 51 = .sc (.int .i64 v16) ∧ t 57 = .ssl (encs c35 x20.Cons) x20.Cons.length false ∧ t 58 = .sc (.int .i64 (x20.Cons.length : Int)) ∧ t 59 = .sc (.int .i64 v28) ∧ t 60 = .sc (.bool (decide (v28 < (x20.Cons.length : Int)))) ∧ H b21 = some (.cells (c32 x20) 32) ∧ b21 < n) (fun J hJ => ?_) ?_
            · simp [-splice, f0, f6, f7, f8, f9, f10, f11, f12, f49, f50, f51, f57, f58, f59, b_b21]
              exact hJ _ _ _ ⟨by simp [f0], by simp [f6], by simp [f7], by simp [f8], by simp [f9], by simp [f10], by simp [f11], by simp [f12], by simp [f49], by simp [f50], by simp [f51], by simp [f57], by simp [f58], by simp [f59], by simp [-splice, f0, f6, f7, f8, f9, f10, f11, f12, f49, f50, f51, f57, f58, f59, b_b21], b_b21, l_b21⟩
            clear f0 f6 f7 f8 f9 f10 f11 f12 f49 f50 f51 f57 f58 f59 b_b21 l_b21
            rintro t H n ⟨f0, f6, f7, f8, f9, f10, f11, f12, f49, f50, f51, f57, f58, f59, f60, b_b21, l_b21⟩
            refine Stk.on ?_
            refine Stk.sq ?_
            refine Stk.cond (decide (v28 < (x20.Cons.length : Int))) (by exact f60) (fun hb33 => ?_) (fun hb33 => ?_)
            · have h := cT hb33 h
              refine Stk.sk ?_
              refine Stk.sq ?_
              refine Stk.bk ?_
              refine Stk.sq ?_
              refine Stk.rg ?_
              obtain ⟨x34, hx34, h⟩ := bnd h
              obtain ⟨i0x34, i1x34, i2x34, _⟩ := idx_ok hx34
              have ex34_0_35 : partOf T.T 35 (encs c35 x20.Cons) (v28.toNat * 2) = some (.agg (c35 x34)) := by
                  have e0 := part_elem0 (e := c35) (z := 2) (T := T.T) (ty := 35) T.t35 (by decide) (by decide) hx34 0 (by decide)
                  (try simp only [Nat.mul_one, Nat.add_zero] at e0)
                  exact e0.trans (ld_35_0_35 _)
              refine Stk.run 2 (fun t H n => t 0 = .ssl (encs c32 a0) a0.length false ∧ t 6 = .ssl (encs c4 x11) x11.length false ∧ t 7 = .ssl (encs c4 x12) x12.length false ∧ t 8 = .sc (.bool v25) ∧ t 9 = .sc (.int .i64 v16) ∧ t 10 = .own b21 0 ∧ t 11 = .sc (.bool v26) ∧ t 12 = .sc (.bool v27) ∧ t 49 = .ssl (encs c32 a0) a0.length false ∧ t 50 = .sc (.int .i64 (a0.length : Int)) ∧ t 51 = .sc (.int .i64 v16) ∧ t 57 = .ssl (encs c35 x20.Cons) x20.Cons.length false ∧ t 58 = .sc (.int .i64 (x20.Cons.length : Int)) ∧ t 59 = .sc (.int .i64 v28) ∧ t 62 = .agg (c35 x34) ∧ H b21 = some (.cells (c32 x20) 32) ∧ b21 < n) (fun J hJ => ?_) ?_
              · simp [-splice, f0, f6, f7, f8, f9, f10, f11, f12, f49, f50, f51, f57, f58, f59, f60, b_b21, i0x34, i1x34, pd35, ex34_0_35]
                exact hJ _ _ _ ⟨by simp [f0], by simp [f6], by simp [f7], by simp [f8], by simp [f9], by simp [f10], by simp [f11], by simp [f12], by simp [f49], by simp [f50], by simp [f51], by simp [f57], by simp [f58], by simp [f59], by simp [-splice, f0, f6, f7, f8, f9, f10, f11, f12, f49, f50, f51, f57, f58, f59, f60, b_b21, i0x34, i1x34, pd35, ex34_0_35], b_b21, l_b21⟩
              clear f0 f6 f7 f8 f9 f10 f11 f12 f49 f50 f51 f57 f58 f59 f60 b_b21 l_b21
              rintro t H n ⟨f0, f6, f7, f8, f9, f10, f11, f12, f49, f50, f51, f57, f58, f59, f62, b_b21, l_b21⟩
              refine Stk.oz T.t35 (cs := c35 (api_Con.mk ⟨#[]⟩ [])) (by rfl) rfl (by simp [f0, f6, f7, f8, f9, f10, f11, f12, f49, f50, f51, f57, f58, f59, f62]) rfl (fun t' ht' => ?_)
              refine Stk.gen (fun t H n => ∃ b35, t 0 = .ssl (encs c32 a0) a0.length false ∧ t 6 = .ssl (encs c4 x11) x11.length false ∧ t 7 = .ssl (encs c4 x12) x12.length false ∧ t 8 = .sc (.bool v25) ∧ t 9 = .sc (.int .i64 v16) ∧ t 10 = .own b21 0 ∧ t 11 = .sc (.bool v26) ∧ t 12 = .sc (.bool v27) ∧ t 14 = .own b35 0 ∧ t 49 = .ssl (encs c32 a0) a0.length false ∧ t 50 = .sc (.int .i64 (a0.length : Int)) ∧ t 51 = .sc (.int .i64 v16) ∧ t 57 = .ssl (encs c35 x20.Cons) x20.Cons.length false ∧ t 58 = .sc (.int .i64 (x20.Cons.length : Int)) ∧ t 59 = .sc (.int .i64 v28) ∧ t 62 = .agg (c35 x34) ∧ H b21 = some (.cells (c32 x20) 32) ∧ b21 < n ∧ H b35 = some (.cells (c35 (api_Con.mk ⟨#[]⟩ [])) 35) ∧ b35 < n ∧ b21 ≠ b35) ⟨n, by simp [ht', f0], by simp [ht', f6], by simp [ht', f7], by simp [ht', f8], by simp [ht', f9], by simp [ht', f10], by simp [ht', f11], by simp [ht', f12], by simp [ht'], by simp [ht', f49], by simp [ht', f50], by simp [ht', f51], by simp [ht', f57], by simp [ht', f58], by simp [ht', f59], by simp [ht', f62], (upd_ne _ _ (Nat.ne_of_lt l_b21)).trans b_b21, Nat.lt_succ_of_lt l_b21, upd_same _ _ _, Nat.lt_succ_self _, Nat.ne_of_lt l_b21⟩ ?_
              clear f0 f6 f7 f8 f9 f10 f11 f12 f49 f50 f51 f57 f58 f59 f62 b_b21 l_b21 ht' t'
              rintro t H n ⟨b35, f0, f6, f7, f8, f9, f10, f11, f12, f14, f49, f50, f51, f57, f58, f59, f62, b_b21, l_b21, b_b35, l_b35, d_b21_b35⟩
              refine Stk.om (mop_store (z := 2) rfl f14 b_b35 f62 (len35 _) (by rw [len35]; decide) (ok35 _) (st_35_0_35 _ _)) (by simp [f0, f6, f7, f8, f9, f10, f11, f12, f14, f49, f50, f51, f57, f58, f59, f62]) rfl (fun t' ht' => ?_)
              refine Stk.gen (fun t H n => t 0 = .ssl (encs c32 a0) a0.length false ∧ t 6 = .ssl (encs c4 x11) x11.length false ∧ t 7 = .ssl (encs c4 x12) x12.length false ∧ t 8 = .sc (.bool v25) ∧ t 9 = .sc (.int .i64 v16) ∧ t 10 = .own b21 0 ∧ t 11 = .sc (.bool v26) ∧ t 12 = .sc (.bool v27) ∧ t 14 = .own b35 0 ∧ t 49 = .ssl (encs c32 a0) a0.length false ∧ t 50 = .sc (.int .i64 (a0.length : Int)) ∧ t 51 = .sc (.int .i64 v16) ∧ t 57 = .ssl (encs c35 x20.Cons) x20.Cons.length false ∧ t 58 = .sc (.int .i64 (x20.Cons.length : Int)) ∧ t 59 = .sc (.int .i64 v28) ∧ H b21 = some (.cells (c32 x20) 32) ∧ b21 < n ∧ H b35 = some (.cells (c35 x34) 35) ∧ b35 < n ∧ b21 ≠ b35) ⟨by simp [ht', f0], by simp [ht', f6], by simp [ht', f7], by simp [ht', f8], by simp [ht', f9], by simp [ht', f10], by simp [ht', f11], by simp [ht', f12], by simp [ht', f14], by simp [ht', f49], by simp [ht', f50], by simp [ht', f51], by simp [ht', f57], by simp [ht', f58], by simp [ht', f59], (upd_ne _ _ d_b21_b35).trans b_b21, l_b21, upd_same _ _ _, l_b35, d_b21_b35⟩ ?_
              clear f0 f6 f7 f8 f9 f10 f11 f12 f14 f49 f50 f51 f57 f58 f59 f62 b_b21 l_b21 b_b35 l_b35 d_b21_b35 ht' t'
              rintro t H n ⟨f0, f6, f7, f8, f9, f10, f11, f12, f14, f49, f50, f51, f57, f58, f59, b_b21, l_b21, b_b35, l_b35, d_b21_b35⟩
              refine Stk.on ?_
              refine Stk.sq ?_
              refine Stk.rg ?_
              refine Stk.run 1 (fun t H n => t 0 = .ssl (encs c32 a0) a0.length false ∧ t 6 = .ssl (encs c4 x11) x11.length false ∧ t 7 = .ssl (encs c4 x12) x12.length false ∧ t 8 = .sc (.bool v25) ∧ t 9 = .sc (.int .i64 v16) ∧ t 10 = .own b21 0 ∧ t 11 = .sc (.bool v26) ∧ t 12 = .sc (.bool v27) ∧ t 14 = .own b35 0 ∧ t 15 = .sc (.bool false) ∧ t 49 = .ssl (encs c32 a0) a0.length false ∧ t 50 = .sc (.int .i64 (a0.length : Int)) ∧ t 51 = .sc (.int .i64 v16) ∧ t 57 = .ssl (encs c35 x20.Cons) x20.Cons.length false ∧ t 58 = .sc (.int .i64 (x20.Cons.length : Int)) ∧ t 59 = .sc (.int .i64 v28) ∧ H b21 = some (.cells (c32 x20) 32) ∧ b21 < n ∧ H b35 = some (.cells (c35 x34) 35) ∧ b35 < n ∧ b21 ≠ b35) (fun J hJ => ?_) ?_
              · simp [-splice, f0, f6, f7, f8, f9, f10, f11, f12, f14, f49, f50, f51, f57, f58, f59, b_b21, b_b35]
                exact hJ _ _ _ ⟨by simp [f0], by simp [f6], by simp [f7], by simp [f8], by simp [f9], by simp [f10], by simp [f11], by simp [f12], by simp [f14], by simp [-splice, f0, f6, f7, f8, f9, f10, f11, f12, f14, f49, f50, f51, f57, f58, f59, b_b21, b_b35], by simp [f49], by simp [f50], by simp [f51], by simp [f57], by simp [f58], by simp [f59], b_b21, l_b21, b_b35, l_b35, d_b21_b35⟩
              clear f0 f6 f7 f8 f9 f10 f11 f12 f14 f49 f50 f51 f57 f58 f59 b_b21 l_b21 b_b35 l_b35 d_b21_b35
              rintro t H n ⟨f0, f6, f7, f8, f9, f10, f11, f12, f14, f15, f49, f50, f51, f57, f58, f59, b_b21, l_b21, b_b35, l_b35, d_b21_b35⟩
              refine Stk.on ?_
              refine Stk.sq ?_
              refine Stk.sq ?_
              refine Stk.rg ?_
              refine Stk.run 4 (fun t H n => t 0 = .ssl (encs c32 a0) a0.length false ∧ t 6 = .ssl (encs c4 x11) x11.length false ∧ t 7 = .ssl (encs c4 x12) x12.length false ∧ t 8 = .sc (.bool v25) ∧ t 9 = .sc (.int .i64 v16) ∧ t 10 = .own b21 0 ∧ t 11 = .sc (.bool v26) ∧ t 12 = .sc (.bool v27) ∧ t 14 = .own b35 0 ∧ t 15 = .sc (.bool false) ∧ t 49 = .ssl (encs c32 a0) a0.length false ∧ t 50 = .sc (.int .i64 (a0.length : Int)) ∧ t 51 = .sc (.int .i64 v16) ∧ t 57 = .ssl (encs c35 x20.Cons) x20.Cons.length false ∧ t 58 = .sc (.int .i64 (x20.Cons.length : Int)) ∧ t 59 = .sc (.int .i64 v28) ∧ t 64 = .ssl (encs c40 x34.Fields) x34.Fields.length false ∧ t 65 = .sc (.int .i64 (x34.Fields.length : Int)) ∧ t 66 = .sc (.int .i64 0) ∧ H b21 = some (.cells (c32 x20) 32) ∧ b21 < n ∧ H b35 = some (.cells (c35 x34) 35) ∧ b35 < n ∧ b21 ≠ b35) (fun J hJ => ?_) ?_
              · simp [-splice, f0, f6, f7, f8, f9, f10, f11, f12, f14, f15, f49, f50, f51, f57, f58, f59, b_b21, b_b35, ld_35_1_33]
                exact hJ _ _ _ ⟨by simp [f0], by simp [f6], by simp [f7], by simp [f8], by simp [f9], by simp [f10], by simp [f11], by simp [f12], by simp [f14], by simp [f15], by simp [f49], by simp [f50], by simp [f51], by simp [f57], by simp [f58], by simp [f59], by simp [-splice, f0, f6, f7, f8, f9, f10, f11, f12, f14, f15, f49, f50, f51, f57, f58, f59, b_b21, b_b35, ld_35_1_33], by simp [-splice, f0, f6, f7, f8, f9, f10, f11, f12, f14, f15, f49, f50, f51, f57, f58, f59, b_b21, b_b35, ld_35_1_33], by simp [-splice, f0, f6, f7, f8, f9, f10, f11, f12, f14, f15, f49, f50, f51, f57, f58, f59, b_b21, b_b35, ld_35_1_33], b_b21, l_b21, b_b35, l_b35, d_b21_b35⟩
              clear f0 f6 f7 f8 f9 f10 f11 f12 f14 f15 f49 f50 f51 f57 f58 f59 b_b21 l_b21 b_b35 l_b35 d_b21_b35
              rintro t H n ⟨f0, f6, f7, f8, f9, f10, f11, f12, f14, f15, f49, f50, f51, f57, f58, f59, f64, f65, f66, b_b21, l_b21, b_b35, l_b35, d_b21_b35⟩
              refine Stk.on ?_
              obtain ⟨K7, hK7, h⟩ := jnd h
              refine Stk.jn (fun t H n => ∃ v36 : Bool, ∃ v37 : Bool, K7 v36 v37 = some r ∧ t 0 = .ssl (encs c32 a0) a0.length false ∧ t 6 = .ssl (encs c4 x11) x11.length false ∧ t 7 = .ssl (encs c4 x12) x12.length false ∧ t 8 = .sc (.bool v36) ∧ t 9 = .sc (.int .i64 v16) ∧ t 10 = .own b21 0 ∧ t 11 = .sc (.bool v26) ∧ t 12 = .sc (.bool v27) ∧ t 14 = .own b35 0 ∧ t 15 = .sc (.bool v37) ∧ t 49 = .ssl (encs c32 a0) a0.length false ∧ t 50 = .sc (.int .i64 (a0.length : Int)) ∧ t 51 = .sc (.int .i64 v16) ∧ t 57 = .ssl (encs c35 x20.Cons) x20.Cons.length false ∧ t 58 = .sc (.int .i64 (x20.Cons.length : Int)) ∧ t 59 = .sc (.int .i64 v28) ∧ H b21 = some (.cells (c32 x20) 32) ∧ b21 < n ∧ H b35 = some (.cells (c35 x34) 35) ∧ b35 < n ∧ b21 ≠ b35) trivial (fun J7 hJ7 => ?_) ?_
              · skip
                refine Stk.bk ?_
                refine Stk.lo (fun μ t H n => ∃ v38 : Bool, ∃ v39 : Bool, ∃ v40 : Int, L07_TyMore_L2 F a0 x20 x34 K7 μ v38 v39 v40 = some r ∧ t 0 = .ssl (encs c32 a0) a0.length false ∧ t 6 = .ssl (encs c4 x11) x11.length false ∧ t 7 = .ssl (encs c4 x12) x12.length false ∧ t 8 = .sc (.bool v38) ∧ t 9 = .sc (.int .i64 v16) ∧ t 10 = .own b21 0 ∧ t 11 = .sc (.bool v26) ∧ t 12 = .sc (.bool v27) ∧ t 14 = .own b35 0 ∧ t 15 = .sc (.bool v39) ∧ t 49 = .ssl (encs c32 a0) a0.length false ∧ t 50 = .sc (.int .i64 (a0.length : Int)) ∧ t 51 = .sc (.int .i64 v16) ∧ t 57 = .ssl (encs c35 x20.Cons) x20.Cons.length false ∧ t 58 = .sc (.int .i64 (x20.Cons.length : Int)) ∧ t 59 = .sc (.int .i64 v28) ∧ t 64 = .ssl (encs c40 x34.Fields) x34.Fields.length false ∧ t 65 = .sc (.int .i64 (x34.Fields.length : Int)) ∧ t 66 = .sc (.int .i64 v40) ∧ H b21 = some (.cells (c32 x20) 32) ∧ b21 < n ∧ H b35 = some (.cells (c35 x34) 35) ∧ b35 < n ∧ b21 ≠ b35) F ⟨v25, false, 0, h, f0, f6, f7, f8, f9, f10, f11, f12, f14, f15, f49, f50, f51, f57, f58, f59, f64, f65, f66, b_b21, l_b21, b_b35, l_b35, d_b21_b35⟩ ?_
                clear h f0 f6 f7 f8 f9 f10 f11 f12 f14 f15 f49 f50 f51 f57 f58 f59 f64 f65 f66 b_b21 l_b21 b_b35 l_b35 d_b21_b35
                rintro J8 hJ8 μ t H n ⟨v38, v39, v40, h, f0, f6, f7, f8, f9, f10, f11, f12, f14, f15, f49, f50, f51, f57, f58, f59, f64, f65, f66, b_b21, l_b21, b_b35, l_b35, d_b21_b35⟩
                cases μ with
                | zero => exact absurd h (by simp [L07_TyMore_L2])
                | succ μ =>
                rw [L07_TyMore_L2] at h
                refine Stk.sq ?_
                refine Stk.rg ?_
                refine Stk.run 1 (fun t H n => t 0 = .ssl (encs c32 a0) a0.length false ∧ t 6 = .ssl (encs c4 x11) x11.length false ∧ t 7 = .ssl (encs c4 x12) x12.length false ∧ t 8 = .sc (.bool v38) ∧ t 9 = .sc (.int .i64 v16) ∧ t 10 = .own b21 0 ∧ t 11 = .sc (.bool v26) ∧ t 12 = .sc (.bool v27) ∧ t 14 = .own b35 0 ∧ t 15 = .sc (.bool v39) ∧ t 49 = .ssl (encs c32 a0) a0.length false ∧ t 50 = .sc (.int .i64 (a0.length : Int)) ∧ t 51 = .sc (.int .i64 v16) ∧ t 57 = .ssl (encs c35 x20.Cons) x20.Cons.length false ∧ t 58 = .sc (.int .i64 (x20.Cons.length : Int)) ∧ t 59 = .sc (.int .i64 v28) ∧ t 64 = .ssl (encs c40 x34.Fields) x34.Fields.length false ∧ t 65 = .sc (.int .i64 (x34.Fields.length : Int)) ∧ t 66 = .sc (.int .i64 v40) ∧ t 67 = .sc (.bool (decide (v40 < (x34.Fields.length : Int)))) ∧ H b21 = some (.cells (c32 x20) 32) ∧ b21 < n ∧ H b35 = some (.cells (c35 x34) 35) ∧ b35 < n ∧ b21 ≠ b35) (fun J hJ => ?_) ?_
                · simp [-splice, f0, f6, f7, f8, f9, f10, f11, f12, f14, f15, f49, f50, f51, f57, f58, f59, f64, f65, f66, b_b21, b_b35]
                  exact hJ _ _ _ ⟨by simp [f0], by simp [f6], by simp [f7], by simp [f8], by simp [f9], by simp [f10], by simp [f11], by simp [f12], by simp [f14], by simp [f15], by simp [f49], by simp [f50], by simp [f51], by simp [f57], by simp [f58], by simp [f59], by simp [f64], by simp [f65], by simp [f66], by simp [-splice, f0, f6, f7, f8, f9, f10, f11, f12, f14, f15, f49, f50, f51, f57, f58, f59, f64, f65, f66, b_b21, b_b35], b_b21, l_b21, b_b35, l_b35, d_b21_b35⟩
                clear f0 f6 f7 f8 f9 f10 f11 f12 f14 f15 f49 f50 f51 f57 f58 f59 f64 f65 f66 b_b21 l_b21 b_b35 l_b35 d_b21_b35
                rintro t H n ⟨f0, f6, f7, f8, f9, f10, f11, f12, f14, f15, f49, f50, f51, f57, f58, f59, f64, f65, f66, f67, b_b21, l_b21, b_b35, l_b35, d_b21_b35⟩
                refine Stk.on ?_
                refine Stk.sq ?_
                refine Stk.cond (decide (v40 < (x34.Fields.length : Int))) (by exact f67) (fun hb44 => ?_) (fun hb44 => ?_)
                · have h := cT hb44 h
                  refine Stk.sk ?_
                  refine Stk.sq ?_
                  refine Stk.bk ?_
                  refine Stk.sq ?_
                  refine Stk.rg ?_
                  obtain ⟨x45, hx45, h⟩ := bnd h
                  obtain ⟨i0x45, i1x45, i2x45, _⟩ := idx_ok hx45
                  have ex45_0_40 : partOf T.T 40 (encs c40 x34.Fields) (v40.toNat * 3) = some (.agg (c40 x45)) := by
                      have e0 := part_elem0 (e := c40) (z := 3) (T := T.T) (ty := 40) T.t40 (by decide) (by decide) hx45 0 (by decide)
                      (try simp only [Nat.mul_one, Nat.add_zero] at e0)
                      exact e0.trans (ld_40_0_40 _)
                  refine Stk.run 2 (fun t H n => t 0 = .ssl (encs c32 a0) a0.length false ∧ t 6 = .ssl (encs c4 x11) x11.length false ∧ t 7 = .ssl (encs c4 x12) x12.length false ∧ t 8 = .sc (.bool v38) ∧ t 9 = .sc (.int .i64 v16) ∧ t 10 = .own b21 0 ∧ t 11 = .sc (.bool v26) ∧ t 12 = .sc (.bool v27) ∧ t 14 = .own b35 0 ∧ t 15 = .sc (.bool v39) ∧ t 49 = .ssl (encs c32 a0) a0.length false ∧ t 50 = .sc (.int .i64 (a0.length : Int)) ∧ t 51 = .sc (.int .i64 v16) ∧ t 57 = .ssl (encs c35 x20.Cons) x20.Cons.length false ∧ t 58 = .sc (.int .i64 (x20.Cons.length : Int)) ∧ t 59 = .sc (.int .i64 v28) ∧ t 64 = .ssl (encs c40 x34.Fields) x34.Fields.length false ∧ t 65 = .sc (.int .i64 (x34.Fields.length : Int)) ∧ t 66 = .sc (.int .i64 v40) ∧ t 69 = .agg (c40 x45) ∧ H b21 = some (.cells (c32 x20) 32) ∧ b21 < n ∧ H b35 = some (.cells (c35 x34) 35) ∧ b35 < n ∧ b21 ≠ b35) (fun J hJ => ?_) ?_
                  · simp [-splice, f0, f6, f7, f8, f9, f10, f11, f12, f14, f15, f49, f50, f51, f57, f58, f59, f64, f65, f66, f67, b_b21, b_b35, i0x45, i1x45, pd40, ex45_0_40]
                    exact hJ _ _ _ ⟨by simp [f0], by simp [f6], by simp [f7], by simp [f8], by simp [f9], by simp [f10], by simp [f11], by simp [f12], by simp [f14], by simp [f15], by simp [f49], by simp [f50], by simp [f51], by simp [f57], by simp [f58], by simp [f59], by simp [f64], by simp [f65], by simp [f66], by simp [-splice, f0, f6, f7, f8, f9, f10, f11, f12, f14, f15, f49, f50, f51, f57, f58, f59, f64, f65, f66, f67, b_b21, b_b35, i0x45, i1x45, pd40, ex45_0_40], b_b21, l_b21, b_b35, l_b35, d_b21_b35⟩
                  clear f0 f6 f7 f8 f9 f10 f11 f12 f14 f15 f49 f50 f51 f57 f58 f59 f64 f65 f66 f67 b_b21 l_b21 b_b35 l_b35 d_b21_b35
                  rintro t H n ⟨f0, f6, f7, f8, f9, f10, f11, f12, f14, f15, f49, f50, f51, f57, f58, f59, f64, f65, f66, f69, b_b21, l_b21, b_b35, l_b35, d_b21_b35⟩
                  refine Stk.oz T.t40 (cs := c40 (api_Type.mk 0 ⟨#[]⟩ [])) (by rw [u40]; rfl) rfl (by simp [f0, f6, f7, f8, f9, f10, f11, f12, f14, f15, f49, f50, f51, f57, f58, f59, f64, f65, f66, f69]) rfl (fun t' ht' => ?_)
                  refine Stk.gen (fun t H n => ∃ b46, t 0 = .ssl (encs c32 a0) a0.length false ∧ t 6 = .ssl (encs c4 x11) x11.length false ∧ t 7 = .ssl (encs c4 x12) x12.length false ∧ t 8 = .sc (.bool v38) ∧ t 9 = .sc (.int .i64 v16) ∧ t 10 = .own b21 0 ∧ t 11 = .sc (.bool v26) ∧ t 12 = .sc (.bool v27) ∧ t 14 = .own b35 0 ∧ t 15 = .sc (.bool v39) ∧ t 17 = .own b46 0 ∧ t 49 = .ssl (encs c32 a0) a0.length false ∧ t 50 = .sc (.int .i64 (a0.length : Int)) ∧ t 51 = .sc (.int .i64 v16) ∧ t 57 = .ssl (encs c35 x20.Cons) x20.Cons.length false ∧ t 58 = .sc (.int .i64 (x20.Cons.length : Int)) ∧ t 59 = .sc (.int .i64 v28) ∧ t 64 = .ssl (encs c40 x34.Fields) x34.Fields.length false ∧ t 65 = .sc (.int .i64 (x34.Fields.length : Int)) ∧ t 66 = .sc (.int .i64 v40) ∧ t 69 = .agg (c40 x45) ∧ H b21 = some (.cells (c32 x20) 32) ∧ b21 < n ∧ H b35 = some (.cells (c35 x34) 35) ∧ b35 < n ∧ H b46 = some (.cells (c40 (api_Type.mk 0 ⟨#[]⟩ [])) 40) ∧ b46 < n ∧ b21 ≠ b35 ∧ b21 ≠ b46 ∧ b35 ≠ b46) ⟨n, by simp [ht', f0], by simp [ht', f6], by simp [ht', f7], by simp [ht', f8], by simp [ht', f9], by simp [ht', f10], by simp [ht', f11], by simp [ht', f12], by simp [ht', f14], by simp [ht', f15], by simp [ht'], by simp [ht', f49], by simp [ht', f50], by simp [ht', f51], by simp [ht', f57], by simp [ht', f58], by simp [ht', f59], by simp [ht', f64], by simp [ht', f65], by simp [ht', f66], by simp [ht', f69], (upd_ne _ _ (Nat.ne_of_lt l_b21)).trans b_b21, Nat.lt_succ_of_lt l_b21, (upd_ne _ _ (Nat.ne_of_lt l_b35)).trans b_b35, Nat.lt_succ_of_lt l_b35, upd_same _ _ _, Nat.lt_succ_self _, d_b21_b35, Nat.ne_of_lt l_b21, Nat.ne_of_lt l_b35⟩ ?_
                  clear f0 f6 f7 f8 f9 f10 f11 f12 f14 f15 f49 f50 f51 f57 f58 f59 f64 f65 f66 f69 b_b21 l_b21 b_b35 l_b35 d_b21_b35 ht' t'
                  rintro t H n ⟨b46, f0, f6, f7, f8, f9, f10, f11, f12, f14, f15, f17, f49, f50, f51, f57, f58, f59, f64, f65, f66, f69, b_b21, l_b21, b_b35, l_b35, b_b46, l_b46, d_b21_b35, d_b21_b46, d_b35_b46⟩
                  refine Stk.om (mop_store (z := 3) rfl f17 b_b46 f69 (len40 _) (by rw [len40]; decide) (ok40 _) (st_40_0_40 _ _)) (by simp [f0, f6, f7, f8, f9, f10, f11, f12, f14, f15, f17, f49, f50, f51, f57, f58, f59, f64, f65, f66, f69]) rfl (fun t' ht' => ?_)
                  refine Stk.gen (fun t H n => t 0 = .ssl (encs c32 a0) a0.length false ∧ t 6 = .ssl (encs c4 x11) x11.length false ∧ t 7 = .ssl (encs c4 x12) x12.length false ∧ t 8 = .sc (.bool v38) ∧ t 9 = .sc (.int .i64 v16) ∧ t 10 = .own b21 0 ∧ t 11 = .sc (.bool v26) ∧ t 12 = .sc (.bool v27) ∧ t 14 = .own b35 0 ∧ t 15 = .sc (.bool v39) ∧ t 17 = .own b46 0 ∧ t 49 = .ssl (encs c32 a0) a0.length false ∧ t 50 = .sc (.int .i64 (a0.length : Int)) ∧ t 51 = .sc (.int .i64 v16) ∧ t 57 = .ssl (encs c35 x20.Cons) x20.Cons.length false ∧ t 58 = .sc (.int .i64 (x20.Cons.length : Int)) ∧ t 59 = .sc (.int .i64 v28) ∧ t 64 = .ssl (encs c40 x34.Fields) x34.Fields.length false ∧ t 65 = .sc (.int .i64 (x34.Fields.length : Int)) ∧ t 66 = .sc (.int .i64 v40) ∧ H b21 = some (.cells (c32 x20) 32) ∧ b21 < n ∧ H b35 = some (.cells (c35 x34) 35) ∧ b35 < n ∧ H b46 = some (.cells (c40 x45) 40) ∧ b46 < n ∧ b21 ≠ b35 ∧ b21 ≠ b46 ∧ b35 ≠ b46) ⟨by simp [ht', f0], by simp [ht', f6], by simp [ht', f7], by simp [ht', f8], by simp [ht', f9], by simp [ht', f10], by simp [ht', f11], by simp [ht', f12], by simp [ht', f14], by simp [ht', f15], by simp [ht', f17], by simp [ht', f49], by simp [ht', f50], by simp [ht', f51], by simp [ht', f57], by simp [ht', f58], by simp [ht', f59], by simp [ht', f64], by simp [ht', f65], by simp [ht', f66], (upd_ne _ _ d_b21_b46).trans b_b21, l_b21, (upd_ne _ _ d_b35_b46).trans b_b35, l_b35, upd_same _ _ _, l_b46, d_b21_b35, d_b21_b46, d_b35_b46⟩ ?_
                  clear f0 f6 f7 f8 f9 f10 f11 f12 f14 f15 f17 f49 f50 f51 f57 f58 f59 f64 f65 f66 f69 b_b21 l_b21 b_b35 l_b35 b_b46 l_b46 d_b21_b35 d_b21_b46 d_b35_b46 ht' t'
                  rintro t H n ⟨f0, f6, f7, f8, f9, f10, f11, f12, f14, f15, f17, f49, f50, f51, f57, f58, f59, f64, f65, f66, b_b21, l_b21, b_b35, l_b35, b_b46, l_b46, d_b21_b35, d_b21_b46, d_b35_b46⟩
                  refine Stk.on ?_
                  refine Stk.sq ?_
                  refine Stk.rg ?_
                  refine Stk.run 2 (fun t H n => t 0 = .ssl (encs c32 a0) a0.length false ∧ t 6 = .ssl (encs c4 x11) x11.length false ∧ t 7 = .ssl (encs c4 x12) x12.length false ∧ t 9 = .sc (.int .i64 v16) ∧ t 10 = .own b21 0 ∧ t 11 = .sc (.bool v26) ∧ t 12 = .sc (.bool v27) ∧ t 14 = .own b35 0 ∧ t 15 = .sc (.bool v39) ∧ t 17 = .own b46 0 ∧ t 49 = .ssl (encs c32 a0) a0.length false ∧ t 50 = .sc (.int .i64 (a0.length : Int)) ∧ t 51 = .sc (.int .i64 v16) ∧ t 57 = .ssl (encs c35 x20.Cons) x20.Cons.length false ∧ t 58 = .sc (.int .i64 (x20.Cons.length : Int)) ∧ t 59 = .sc (.int .i64 v28) ∧ t 64 = .ssl (encs c40 x34.Fields) x34.Fields.length false ∧ t 65 = .sc (.int .i64 (x34.Fields.length : Int)) ∧ t 66 = .sc (.int .i64 v40) ∧ t 71 = .sc (.bool v38) ∧ H b21 = some (.cells (c32 x20) 32) ∧ b21 < n ∧ H b35 = some (.cells (c35 x34) 35) ∧ b35 < n ∧ H b46 = some (.cells (c40 x45) 40) ∧ b46 < n ∧ b21 ≠ b35 ∧ b21 ≠ b46 ∧ b35 ≠ b46) (fun J hJ => ?_) ?_
                  · simp [-splice, f0, f6, f7, f8, f9, f10, f11, f12, f14, f15, f17, f49, f50, f51, f57, f58, f59, f64, f65, f66, b_b21, b_b35, b_b46]
                    exact hJ _ _ _ ⟨by simp [f0], by simp [f6], by simp [f7], by simp [f9], by simp [f10], by simp [f11], by simp [f12], by simp [f14], by simp [f15], by simp [f17], by simp [f49], by simp [f50], by simp [f51], by simp [f57], by simp [f58], by simp [f59], by simp [f64], by simp [f65], by simp [f66], by simp [-splice, f0, f6, f7, f8, f9, f10, f11, f12, f14, f15, f17, f49, f50, f51, f57, f58, f59, f64, f65, f66, b_b21, b_b35, b_b46], b_b21, l_b21, b_b35, l_b35, b_b46, l_b46, d_b21_b35, d_b21_b46, d_b35_b46⟩
                  clear f0 f6 f7 f8 f9 f10 f11 f12 f14 f15 f17 f49 f50 f51 f57 f58 f59 f64 f65 f66 b_b21 l_b21 b_b35 l_b35 b_b46 l_b46 d_b21_b35 d_b21_b46 d_b35_b46
                  rintro t H n ⟨f0, f6, f7, f9, f10, f11, f12, f14, f15, f17, f49, f50, f51, f57, f58, f59, f64, f65, f66, f71, b_b21, l_b21, b_b35, l_b35, b_b46, l_b46, d_b21_b35, d_b21_b46, d_b35_b46⟩
                  obtain ⟨K9, hK9, h⟩ := jnd h
                  refine Stk.jo 4 (fun t H n => ∃ v47 : Bool, K9 v47 = some r ∧ t 0 = .ssl (encs c32 a0) a0.length false ∧ t 6 = .ssl (encs c4 x11) x11.length false ∧ t 7 = .ssl (encs c4 x12) x12.length false ∧ t 9 = .sc (.int .i64 v16) ∧ t 10 = .own b21 0 ∧ t 11 = .sc (.bool v26) ∧ t 12 = .sc (.bool v27) ∧ t 14 = .own b35 0 ∧ t 15 = .sc (.bool v39) ∧ t 17 = .own b46 0 ∧ t 49 = .ssl (encs c32 a0) a0.length false ∧ t 50 = .sc (.int .i64 (a0.length : Int)) ∧ t 51 = .sc (.int .i64 v16) ∧ t 57 = .ssl (encs c35 x20.Cons) x20.Cons.length false ∧ t 58 = .sc (.int .i64 (x20.Cons.length : Int)) ∧ t 59 = .sc (.int .i64 v28) ∧ t 64 = .ssl (encs c40 x34.Fields) x34.Fields.length false ∧ t 65 = .sc (.int .i64 (x34.Fields.length : Int)) ∧ t 66 = .sc (.int .i64 v40) ∧ t 75 = .sc (.bool v47) ∧ H b21 = some (.cells (c32 x20) 32) ∧ b21 < n ∧ H b35 = some (.cells (c35 x34) 35) ∧ b35 < n ∧ H b46 = some (.cells (c40 x45) 40) ∧ b46 < n ∧ b21 ≠ b35 ∧ b21 ≠ b46 ∧ b35 ≠ b46) (fun J9 hJ9 => ?_) ?_
                  · rcases Bool.eq_false_or_eq_true v38 with hb9 | hb9
                    · rw [hb9] at f71
                      replace h := cT hb9 h
                      refine Stk.run 2 (fun t H n => t 0 = .ssl (encs c32 a0) a0.length false ∧ t 6 = .ssl (encs c4 x11) x11.length false ∧ t 7 = .ssl (encs c4 x12) x12.length false ∧ t 9 = .sc (.int .i64 v16) ∧ t 10 = .own b21 0 ∧ t 11 = .sc (.bool v26) ∧ t 12 = .sc (.bool v27) ∧ t 14 = .own b35 0 ∧ t 15 = .sc (.bool v39) ∧ t 17 = .own b46 0 ∧ t 49 = .ssl (encs c32 a0) a0.length false ∧ t 50 = .sc (.int .i64 (a0.length : Int)) ∧ t 51 = .sc (.int .i64 v16) ∧ t 57 = .ssl (encs c35 x20.Cons) x20.Cons.length false ∧ t 58 = .sc (.int .i64 (x20.Cons.length : Int)) ∧ t 59 = .sc (.int .i64 v28) ∧ t 64 = .ssl (encs c40 x34.Fields) x34.Fields.length false ∧ t 65 = .sc (.int .i64 (x34.Fields.length : Int)) ∧ t 66 = .sc (.int .i64 v40) ∧ t 71 = .sc (.bool true) ∧ t 72 = .ssl (encs c32 a0) a0.length false ∧ t 73 = .agg (c40 x45) ∧ H b21 = some (.cells (c32 x20) 32) ∧ b21 < n ∧ H b35 = some (.cells (c35 x34) 35) ∧ b35 < n ∧ H b46 = some (.cells (c40 x45) 40) ∧ b46 < n ∧ b21 ≠ b35 ∧ b21 ≠ b46 ∧ b35 ≠ b46) (fun J hJ => ?_) ?_
                      · simp [-splice, f0, f6, f7, f9, f10, f11, f12, f14, f15, f17, f49, f50, f51, f57, f58, f59, f64, f65, f66, f71, b_b21, b_b35, b_b46, ld_40_0_40]
                        exact hJ _ _ _ ⟨by simp [f0], by simp [f6], by simp [f7], by simp [f9], by simp [f10], by simp [f11], by simp [f12], by simp [f14], by simp [f15], by simp [f17], by simp [f49], by simp [f50], by simp [f51], by simp [f57], by simp [f58], by simp [f59], by simp [f64], by simp [f65], by simp [f66], by simp [f71], by simp [-splice, f0, f6, f7, f9, f10, f11, f12, f14, f15, f17, f49, f50, f51, f57, f58, f59, f64, f65, f66, f71, b_b21, b_b35, b_b46, ld_40_0_40], by simp [-splice, f0, f6, f7, f9, f10, f11, f12, f14, f15, f17, f49, f50, f51, f57, f58, f59, f64, f65, f66, f71, b_b21, b_b35, b_b46, ld_40_0_40], b_b21, l_b21, b_b35, l_b35, b_b46, l_b46, d_b21_b35, d_b21_b46, d_b35_b46⟩
                      clear f0 f6 f7 f9 f10 f11 f12 f14 f15 f17 f49 f50 f51 f57 f58 f59 f64 f65 f66 f71 b_b21 l_b21 b_b35 l_b35 b_b46 l_b46 d_b21_b35 d_b21_b46 d_b35_b46
                      rintro t H n ⟨f0, f6, f7, f9, f10, f11, f12, f14, f15, f17, f49, f50, f51, f57, f58, f59, f64, f65, f66, f71, f72, f73, b_b21, l_b21, b_b35, l_b35, b_b46, l_b46, d_b21_b35, d_b21_b46, d_b35_b46⟩
                      obtain ⟨x48, hx48, h⟩ := bnd h
                      refine Stk.cv (g := 11) (args := [.ssl (encs c32 a0) a0.length false, .agg (c40 x45)]) (args' := [.ssl (encs c32 a0) a0.length false, .agg (c40 x45)]) (v := .sc (.bool x48)) [] (ok_ty_Known F _ _ _ hx48) (by simp [f0, f6, f7, f9, f10, f11, f12, f14, f15, f17, f49, f50, f51, f57, f58, f59, f64, f65, f66, f71, f72, f73]) rfl rfl (by simp [f0, f6, f7, f9, f10, f11, f12, f14, f15, f17, f49, f50, f51, f57, f58, f59, f64, f65, f66, f71, f72, f73]) (.cons (.free (freeL_encs fr32 _)) (.cons (.free (fr40 _)) (.nil))) (.inl ⟨rfl, rfl⟩) (fun t' ht' => ?_)
                      refine Stk.gen (fun t H n => t 0 = .ssl (encs c32 a0) a0.length false ∧ t 6 = .ssl (encs c4 x11) x11.length false ∧ t 7 = .ssl (encs c4 x12) x12.length false ∧ t 9 = .sc (.int .i64 v16) ∧ t 10 = .own b21 0 ∧ t 11 = .sc (.bool v26) ∧ t 12 = .sc (.bool v27) ∧ t 14 = .own b35 0 ∧ t 15 = .sc (.bool v39) ∧ t 17 = .own b46 0 ∧ t 49 = .ssl (encs c32 a0) a0.length false ∧ t 50 = .sc (.int .i64 (a0.length : Int)) ∧ t 51 = .sc (.int .i64 v16) ∧ t 57 = .ssl (encs c35 x20.Cons) x20.Cons.length false ∧ t 58 = .sc (.int .i64 (x20.Cons.length : Int)) ∧ t 59 = .sc (.int .i64 v28) ∧ t 64 = .ssl (encs c40 x34.Fields) x34.Fields.length false ∧ t 65 = .sc (.int .i64 (x34.Fields.length : Int)) ∧ t 66 = .sc (.int .i64 v40) ∧ t 71 = .sc (.bool true) ∧ t 74 = .sc (.bool x48) ∧ H b21 = some (.cells (c32 x20) 32) ∧ b21 < n ∧ H b35 = some (.cells (c35 x34) 35) ∧ b35 < n ∧ H b46 = some (.cells (c40 x45) 40) ∧ b46 < n ∧ b21 ≠ b35 ∧ b21 ≠ b46 ∧ b35 ≠ b46) ⟨by simp [ht', f0], by simp [ht', f6], by simp [ht', f7], by simp [ht', f9], by simp [ht', f10], by simp [ht', f11], by simp [ht', f12], by simp [ht', f14], by simp [ht', f15], by simp [ht', f17], by simp [ht', f49], by simp [ht', f50], by simp [ht', f51], by simp [ht', f57], by simp [ht', f58], by simp [ht', f59], by simp [ht', f64], by simp [ht', f65], by simp [ht', f66], by simp [ht', f71], by simp [ht'], b_b21, l_b21, b_b35, l_b35, b_b46, l_b46, d_b21_b35, d_b21_b46, d_b35_b46⟩ ?_
                      clear f0 f6 f7 f9 f10 f11 f12 f14 f15 f17 f49 f50 f51 f57 f58 f59 f64 f65 f66 f71 f72 f73 b_b21 l_b21 b_b35 l_b35 b_b46 l_b46 d_b21_b35 d_b21_b46 d_b35_b46 ht' t'
                      rintro t H n ⟨f0, f6, f7, f9, f10, f11, f12, f14, f15, f17, f49, f50, f51, f57, f58, f59, f64, f65, f66, f71, f74, b_b21, l_b21, b_b35, l_b35, b_b46, l_b46, d_b21_b35, d_b21_b46, d_b35_b46⟩
                      refine Stk.run 1 (fun t H n => t 0 = .ssl (encs c32 a0) a0.length false ∧ t 6 = .ssl (encs c4 x11) x11.length false ∧ t 7 = .ssl (encs c4 x12) x12.length false ∧ t 9 = .sc (.int .i64 v16) ∧ t 10 = .own b21 0 ∧ t 11 = .sc (.bool v26) ∧ t 12 = .sc (.bool v27) ∧ t 14 = .own b35 0 ∧ t 15 = .sc (.bool v39) ∧ t 17 = .own b46 0 ∧ t 49 = .ssl (encs c32 a0) a0.length false ∧ t 50 = .sc (.int .i64 (a0.length : Int)) ∧ t 51 = .sc (.int .i64 v16) ∧ t 57 = .ssl (encs c35 x20.Cons) x20.Cons.length false ∧ t 58 = .sc (.int .i64 (x20.Cons.length : Int)) ∧ t 59 = .sc (.int .i64 v28) ∧ t 64 = .ssl (encs c40 x34.Fields) x34.Fields.length false ∧ t 65 = .sc (.int .i64 (x34.Fields.length : Int)) ∧ t 66 = .sc (.int .i64 v40) ∧ t 75 = .sc (.bool x48) ∧ H b21 = some (.cells (c32 x20) 32) ∧ b21 < n ∧ H b35 = some (.cells (c35 x34) 35) ∧ b35 < n ∧ H b46 = some (.cells (c40 x45) 40) ∧ b46 < n ∧ b21 ≠ b35 ∧ b21 ≠ b46 ∧ b35 ≠ b46) (fun J hJ => ?_) ?_
                      · simp [-splice, f0, f6, f7, f9, f10, f11, f12, f14, f15, f17, f49, f50, f51, f57, f58, f59, f64, f65, f66, f71, f74, b_b21, b_b35, b_b46]
                        exact hJ _ _ _ ⟨by simp [f0], by simp [f6], by simp [f7], by simp [f9], by simp [f10], by simp [f11], by simp [f12], by simp [f14], by simp [f15], by simp [f17], by simp [f49], by simp [f50], by simp [f51], by simp [f57], by simp [f58], by simp [f59], by simp [f64], by simp [f65], by simp [f66], by simp [-splice, f0, f6, f7, f9, f10, f11, f12, f14, f15, f17, f49, f50, f51, f57, f58, f59, f64, f65, f66, f71, f74, b_b21, b_b35, b_b46], b_b21, l_b21, b_b35, l_b35, b_b46, l_b46, d_b21_b35, d_b21_b46, d_b35_b46⟩
                      clear f0 f6 f7 f9 f10 f11 f12 f14 f15 f17 f49 f50 f51 f57 f58 f59 f64 f65 f66 f71 f74 b_b21 l_b21 b_b35 l_b35 b_b46 l_b46 d_b21_b35 d_b21_b46 d_b35_b46
                      rintro t H n ⟨f0, f6, f7, f9, f10, f11, f12, f14, f15, f17, f49, f50, f51, f57, f58, f59, f64, f65, f66, f75, b_b21, l_b21, b_b35, l_b35, b_b46, l_b46, d_b21_b35, d_b21_b46, d_b35_b46⟩
                      refine Stk.on ?_
                      exact Stk.ln 0 (by decide) (hJ9 _ _ _ ⟨x48, h, f0, f6, f7, f9, f10, f11, f12, f14, f15, f17, f49, f50, f51, f57, f58, f59, f64, f65, f66, f75, b_b21, l_b21, b_b35, l_b35, b_b46, l_b46, d_b21_b35, d_b21_b46, d_b35_b46⟩)
                    · rw [hb9] at f71
                      replace h := cF hb9 h
                      refine Stk.run 4 (fun t H n => t 0 = .ssl (encs c32 a0) a0.length false ∧ t 6 = .ssl (encs c4 x11) x11.length false ∧ t 7 = .ssl (encs c4 x12) x12.length false ∧ t 9 = .sc (.int .i64 v16) ∧ t 10 = .own b21 0 ∧ t 11 = .sc (.bool v26) ∧ t 12 = .sc (.bool v27) ∧ t 14 = .own b35 0 ∧ t 15 = .sc (.bool v39) ∧ t 17 = .own b46 0 ∧ t 49 = .ssl (encs c32 a0) a0.length false ∧ t 50 = .sc (.int .i64 (a0.length : Int)) ∧ t 51 = .sc (.int .i64 v16) ∧ t 57 = .ssl (encs c35 x20.Cons) x20.Cons.length false ∧ t 58 = .sc (.int .i64 (x20.Cons.length : Int)) ∧ t 59 = .sc (.int .i64 v28) ∧ t 64 = .ssl (encs c40 x34.Fields) x34.Fields.length false ∧ t 65 = .sc (.int .i64 (x34.Fields.length : Int)) ∧ t 66 = .sc (.int .i64 v40) ∧ t 75 = .sc (.bool false) ∧ H b21 = some (.cells (c32 x20) 32) ∧ b21 < n ∧ H b35 = some (.cells (c35 x34) 35) ∧ b35 < n ∧ H b46 = some (.cells (c40 x45) 40) ∧ b46 < n ∧ b21 ≠ b35 ∧ b21 ≠ b46 ∧ b35 ≠ b46) (fun J hJ => ?_) ?_
                      · simp [-splice, f0, f6, f7, f9, f10, f11, f12, f14, f15, f17, f49, f50, f51, f57, f58, f59, f64, f65, f66, f71, b_b21, b_b35, b_b46]
                        exact hJ _ _ _ ⟨by simp [f0], by simp [f6], by simp [f7], by simp [f9], by simp [f10], by simp [f11], by simp [f12], by simp [f14], by simp [f15], by simp [f17], by simp [f49], by simp [f50], by simp [f51], by simp [f57], by simp [f58], by simp [f59], by simp [f64], by simp [f65], by simp [f66], by simp [-splice, f0, f6, f7, f9, f10, f11, f12, f14, f15, f17, f49, f50, f51, f57, f58, f59, f64, f65, f66, f71, b_b21, b_b35, b_b46], b_b21, l_b21, b_b35, l_b35, b_b46, l_b46, d_b21_b35, d_b21_b46, d_b35_b46⟩
                      clear f0 f6 f7 f9 f10 f11 f12 f14 f15 f17 f49 f50 f51 f57 f58 f59 f64 f65 f66 f71 b_b21 l_b21 b_b35 l_b35 b_b46 l_b46 d_b21_b35 d_b21_b46 d_b35_b46
                      rintro t H n ⟨f0, f6, f7, f9, f10, f11, f12, f14, f15, f17, f49, f50, f51, f57, f58, f59, f64, f65, f66, f75, b_b21, l_b21, b_b35, l_b35, b_b46, l_b46, d_b21_b35, d_b21_b46, d_b35_b46⟩
                      refine Stk.on ?_
                      exact Stk.ln 0 (by decide) (hJ9 _ _ _ ⟨false, h, f0, f6, f7, f9, f10, f11, f12, f14, f15, f17, f49, f50, f51, f57, f58, f59, f64, f65, f66, f75, b_b21, l_b21, b_b35, l_b35, b_b46, l_b46, d_b21_b35, d_b21_b46, d_b35_b46⟩)
                  clear h f0 f6 f7 f9 f10 f11 f12 f14 f15 f17 f49 f50 f51 f57 f58 f59 f64 f65 f66 f71 b_b21 l_b21 b_b35 l_b35 b_b46 l_b46 d_b21_b35 d_b21_b46 d_b35_b46
                  rintro t H n ⟨v47, h, f0, f6, f7, f9, f10, f11, f12, f14, f15, f17, f49, f50, f51, f57, f58, f59, f64, f65, f66, f75, b_b21, l_b21, b_b35, l_b35, b_b46, l_b46, d_b21_b35, d_b21_b46, d_b35_b46⟩
                  subst hK9
                  refine Stk.run 1 (fun t H n => t 0 = .ssl (encs c32 a0) a0.length false ∧ t 6 = .ssl (encs c4 x11) x11.length false ∧ t 7 = .ssl (encs c4 x12) x12.length false ∧ t 8 = .sc (.bool v47) ∧ t 9 = .sc (.int .i64 v16) ∧ t 10 = .own b21 0 ∧ t 11 = .sc (.bool v26) ∧ t 12 = .sc (.bool v27) ∧ t 14 = .own b35 0 ∧ t 15 = .sc (.bool v39) ∧ t 17 = .own b46 0 ∧ t 49 = .ssl (encs c32 a0) a0.length false ∧ t 50 = .sc (.int .i64 (a0.length : Int)) ∧ t 51 = .sc (.int .i64 v16) ∧ t 57 = .ssl (encs c35 x20.Cons) x20.Cons.length false ∧ t 58 = .sc (.int .i64 (x20.Cons.length : Int)) ∧ t 59 = .sc (.int .i64 v28) ∧ t 64 = .ssl (encs c40 x34.Fields) x34.Fields.length false ∧ t 65 = .sc (.int .i64 (x34.Fields.length : Int)) ∧ t 66 = .sc (.int .i64 v40) ∧ H b21 = some (.cells (c32 x20) 32) ∧ b21 < n ∧ H b35 = some (.cells (c35 x34) 35) ∧ b35 < n ∧ H b46 = some (.cells (c40 x45) 40) ∧ b46 < n ∧ b21 ≠ b35 ∧ b21 ≠ b46 ∧ b35 ≠ b46) (fun J hJ => ?_) ?_
                  · simp [-splice, f0, f6, f7, f9, f10, f11, f12, f14, f15, f17, f49, f50, f51, f57, f58, f59, f64, f65, f66, f75, b_b21, b_b35, b_b46]
                    exact hJ _ _ _ ⟨by simp [f0], by simp [f6], by simp [f7], by simp [-splice, f0, f6, f7, f9, f10, f11, f12, f14, f15, f17, f49, f50, f51, f57, f58, f59, f64, f65, f66, f75, b_b21, b_b35, b_b46], by simp [f9], by simp [f10], by simp [f11], by simp [f12], by simp [f14], by simp [f15], by simp [f17], by simp [f49], by simp [f50], by simp [f51], by simp [f57], by simp [f58], by simp [f59], by simp [f64], by simp [f65], by simp [f66], b_b21, l_b21, b_b35, l_b35, b_b46, l_b46, d_b21_b35, d_b21_b46, d_b35_b46⟩
                  clear f0 f6 f7 f9 f10 f11 f12 f14 f15 f17 f49 f50 f51 f57 f58 f59 f64 f65 f66 f75 b_b21 l_b21 b_b35 l_b35 b_b46 l_b46 d_b21_b35 d_b21_b46 d_b35_b46
                  rintro t H n ⟨f0, f6, f7, f8, f9, f10, f11, f12, f14, f15, f17, f49, f50, f51, f57, f58, f59, f64, f65, f66, b_b21, l_b21, b_b35, l_b35, b_b46, l_b46, d_b21_b35, d_b21_b46, d_b35_b46⟩
                  refine Stk.on ?_
                  refine Stk.rg ?_
                  refine Stk.run 2 (fun t H n => t 0 = .ssl (encs c32 a0) a0.length false ∧ t 6 = .ssl (encs c4 x11) x11.length false ∧ t 7 = .ssl (encs c4 x12) x12.length false ∧ t 8 = .sc (.bool v47) ∧ t 9 = .sc (.int .i64 v16) ∧ t 10 = .own b21 0 ∧ t 11 = .sc (.bool v26) ∧ t 12 = .sc (.bool v27) ∧ t 14 = .own b35 0 ∧ t 17 = .own b46 0 ∧ t 49 = .ssl (encs c32 a0) a0.length false ∧ t 50 = .sc (.int .i64 (a0.length : Int)) ∧ t 51 = .sc (.int .i64 v16) ∧ t 57 = .ssl (encs c35 x20.Cons) x20.Cons.length false ∧ t 58 = .sc (.int .i64 (x20.Cons.length : Int)) ∧ t 59 = .sc (.int .i64 v28) ∧ t 64 = .ssl (encs c40 x34.Fields) x34.Fields.length false ∧ t 65 = .sc (.int .i64 (x34.Fields.length : Int)) ∧ t 66 = .sc (.int .i64 v40) ∧ t 77 = .sc (.bool v39) ∧ H b21 = some (.cells (c32 x20) 32) ∧ b21 < n ∧ H b35 = some (.cells (c35 x34) 35) ∧ b35 < n ∧ H b46 = some (.cells (c40 x45) 40) ∧ b46 < n ∧ b21 ≠ b35 ∧ b21 ≠ b46 ∧ b35 ≠ b46) (fun J hJ => ?_) ?_
                  · simp [-splice, f0, f6, f7, f8, f9, f10, f11, f12, f14, f15, f17, f49, f50, f51, f57, f58, f59, f64, f65, f66, b_b21, b_b35, b_b46]
                    exact hJ _ _ _ ⟨by simp [f0], by simp [f6], by simp [f7], by simp [f8], by simp [f9], by simp [f10], by simp [f11], by simp [f12], by simp [f14], by simp [f17], by simp [f49], by simp [f50], by simp [f51], by simp [f57], by simp [f58], by simp [f59], by simp [f64], by simp [f65], by simp [f66], by simp [-splice, f0, f6, f7, f8, f9, f10, f11, f12, f14, f15, f17, f49, f50, f51, f57, f58, f59, f64, f65, f66, b_b21, b_b35, b_b46], b_b21, l_b21, b_b35, l_b35, b_b46, l_b46, d_b21_b35, d_b21_b46, d_b35_b46⟩
                  clear f0 f6 f7 f8 f9 f10 f11 f12 f14 f15 f17 f49 f50 f51 f57 f58 f59 f64 f65 f66 b_b21 l_b21 b_b35 l_b35 b_b46 l_b46 d_b21_b35 d_b21_b46 d_b35_b46
                  rintro t H n ⟨f0, f6, f7, f8, f9, f10, f11, f12, f14, f17, f49, f50, f51, f57, f58, f59, f64, f65, f66, f77, b_b21, l_b21, b_b35, l_b35, b_b46, l_b46, d_b21_b35, d_b21_b46, d_b35_b46⟩
                  refine Stk.jo 11 (fun t H n => t 0 = .ssl (encs c32 a0) a0.length false ∧ t 6 = .ssl (encs c4 x11) x11.length false ∧ t 7 = .ssl (encs c4 x12) x12.length false ∧ t 8 = .sc (.bool v47) ∧ t 9 = .sc (.int .i64 v16) ∧ t 10 = .own b21 0 ∧ t 11 = .sc (.bool v26) ∧ t 12 = .sc (.bool v27) ∧ t 14 = .own b35 0 ∧ t 49 = .ssl (encs c32 a0) a0.length false ∧ t 50 = .sc (.int .i64 (a0.length : Int)) ∧ t 51 = .sc (.int .i64 v16) ∧ t 57 = .ssl (encs c35 x20.Cons) x20.Cons.length false ∧ t 58 = .sc (.int .i64 (x20.Cons.length : Int)) ∧ t 59 = .sc (.int .i64 v28) ∧ t 64 = .ssl (encs c40 x34.Fields) x34.Fields.length false ∧ t 65 = .sc (.int .i64 (x34.Fields.length : Int)) ∧ t 66 = .sc (.int .i64 v40) ∧ t 88 = .sc (.bool (v39 || ((x45.Kind == 2) && (x45.Name.toList == x20.Name.toList)))) ∧ H b21 = some (.cells (c32 x20) 32) ∧ b21 < n ∧ H b35 = some (.cells (c35 x34) 35) ∧ b35 < n ∧ b21 ≠ b35) (fun J10 hJ10 => ?_) ?_
                  · rcases Bool.eq_false_or_eq_true v39 with hb10 | hb10
                    · rw [hb10] at f77
                      refine Stk.run 11 (fun t H n => t 0 = .ssl (encs c32 a0) a0.length false ∧ t 6 = .ssl (encs c4 x11) x11.length false ∧ t 7 = .ssl (encs c4 x12) x12.length false ∧ t 8 = .sc (.bool v47) ∧ t 9 = .sc (.int .i64 v16) ∧ t 10 = .own b21 0 ∧ t 11 = .sc (.bool v26) ∧ t 12 = .sc (.bool v27) ∧ t 14 = .own b35 0 ∧ t 49 = .ssl (encs c32 a0) a0.length false ∧ t 50 = .sc (.int .i64 (a0.length : Int)) ∧ t 51 = .sc (.int .i64 v16) ∧ t 57 = .ssl (encs c35 x20.Cons) x20.Cons.length false ∧ t 58 = .sc (.int .i64 (x20.Cons.length : Int)) ∧ t 59 = .sc (.int .i64 v28) ∧ t 64 = .ssl (encs c40 x34.Fields) x34.Fields.length false ∧ t 65 = .sc (.int .i64 (x34.Fields.length : Int)) ∧ t 66 = .sc (.int .i64 v40) ∧ t 88 = .sc (.bool true) ∧ H b21 = some (.cells (c32 x20) 32) ∧ b21 < n ∧ H b35 = some (.cells (c35 x34) 35) ∧ b35 < n ∧ b21 ≠ b35) (fun J hJ => ?_) ?_
                      · simp [-splice, f0, f6, f7, f8, f9, f10, f11, f12, f14, f17, f49, f50, f51, f57, f58, f59, f64, f65, f66, f77, b_b21, b_b35, b_b46]
                        exact hJ _ _ _ ⟨by simp [f0], by simp [f6], by simp [f7], by simp [f8], by simp [f9], by simp [f10], by simp [f11], by simp [f12], by simp [f14], by simp [f49], by simp [f50], by simp [f51], by simp [f57], by simp [f58], by simp [f59], by simp [f64], by simp [f65], by simp [f66], by simp [-splice, f0, f6, f7, f8, f9, f10, f11, f12, f14, f17, f49, f50, f51, f57, f58, f59, f64, f65, f66, f77, b_b21, b_b35, b_b46], b_b21, l_b21, b_b35, l_b35, d_b21_b35⟩
                      clear f0 f6 f7 f8 f9 f10 f11 f12 f14 f17 f49 f50 f51 f57 f58 f59 f64 f65 f66 f77 b_b21 l_b21 b_b35 l_b35 b_b46 l_b46 d_b21_b35 d_b21_b46 d_b35_b46
                      rintro t H n ⟨f0, f6, f7, f8, f9, f10, f11, f12, f14, f49, f50, f51, f57, f58, f59, f64, f65, f66, f88, b_b21, l_b21, b_b35, l_b35, d_b21_b35⟩
                      refine Stk.on ?_
                      exact Stk.ln 0 (by decide) (hJ10 _ _ _ ⟨f0, f6, f7, f8, f9, f10, f11, f12, f14, f49, f50, f51, f57, f58, f59, f64, f65, f66, f88.trans (congrArg (fun q => AV.sc (.bool q)) (by rw [hb10]; rfl)), b_b21, l_b21, b_b35, l_b35, d_b21_b35⟩)
                    · rw [hb10] at f77
                      refine Stk.run 4 (fun t H n => t 0 = .ssl (encs c32 a0) a0.length false ∧ t 6 = .ssl (encs c4 x11) x11.length false ∧ t 7 = .ssl (encs c4 x12) x12.length false ∧ t 8 = .sc (.bool v47) ∧ t 9 = .sc (.int .i64 v16) ∧ t 10 = .own b21 0 ∧ t 11 = .sc (.bool v26) ∧ t 12 = .sc (.bool v27) ∧ t 14 = .own b35 0 ∧ t 17 = .own b46 0 ∧ t 49 = .ssl (encs c32 a0) a0.length false ∧ t 50 = .sc (.int .i64 (a0.length : Int)) ∧ t 51 = .sc (.int .i64 v16) ∧ t 57 = .ssl (encs c35 x20.Cons) x20.Cons.length false ∧ t 58 = .sc (.int .i64 (x20.Cons.length : Int)) ∧ t 59 = .sc (.int .i64 v28) ∧ t 64 = .ssl (encs c40 x34.Fields) x34.Fields.length false ∧ t 65 = .sc (.int .i64 (x34.Fields.length : Int)) ∧ t 66 = .sc (.int .i64 v40) ∧ t 77 = .sc (.bool false) ∧ t 81 = .sc (.bool (x45.Kind == 2)) ∧ H b21 = some (.cells (c32 x20) 32) ∧ b21 < n ∧ H b35 = some (.cells (c35 x34) 35) ∧ b35 < n ∧ H b46 = some (.cells (c40 x45) 40) ∧ b46 < n ∧ b21 ≠ b35 ∧ b21 ≠ b46 ∧ b35 ≠ b46) (fun J hJ => ?_) ?_
                      · simp [-splice, f0, f6, f7, f8, f9, f10, f11, f12, f14, f17, f49, f50, f51, f57, f58, f59, f64, f65, f66, f77, b_b21, b_b35, b_b46, ld_40_0_3]
                        exact hJ _ _ _ ⟨by simp [f0], by simp [f6], by simp [f7], by simp [f8], by simp [f9], by simp [f10], by simp [f11], by simp [f12], by simp [f14], by simp [f17], by simp [f49], by simp [f50], by simp [f51], by simp [f57], by simp [f58], by simp [f59], by simp [f64], by simp [f65], by simp [f66], by simp [f77], by simp [-splice, f0, f6, f7, f8, f9, f10, f11, f12, f14, f17, f49, f50, f51, f57, f58, f59, f64, f65, f66, f77, b_b21, b_b35, b_b46, ld_40_0_3], b_b21, l_b21, b_b35, l_b35, b_b46, l_b46, d_b21_b35, d_b21_b46, d_b35_b46⟩
                      clear f0 f6 f7 f8 f9 f10 f11 f12 f14 f17 f49 f50 f51 f57 f58 f59 f64 f65 f66 f77 b_b21 l_b21 b_b35 l_b35 b_b46 l_b46 d_b21_b35 d_b21_b46 d_b35_b46
                      rintro t H n ⟨f0, f6, f7, f8, f9, f10, f11, f12, f14, f17, f49, f50, f51, f57, f58, f59, f64, f65, f66, f77, f81, b_b21, l_b21, b_b35, l_b35, b_b46, l_b46, d_b21_b35, d_b21_b46, d_b35_b46⟩
                      refine Stk.jo 6 (fun t H n => t 0 = .ssl (encs c32 a0) a0.length false ∧ t 6 = .ssl (encs c4 x11) x11.length false ∧ t 7 = .ssl (encs c4 x12) x12.length false ∧ t 8 = .sc (.bool v47) ∧ t 9 = .sc (.int .i64 v16) ∧ t 10 = .own b21 0 ∧ t 11 = .sc (.bool v26) ∧ t 12 = .sc (.bool v27) ∧ t 14 = .own b35 0 ∧ t 49 = .ssl (encs c32 a0) a0.length false ∧ t 50 = .sc (.int .i64 (a0.length : Int)) ∧ t 51 = .sc (.int .i64 v16) ∧ t 57 = .ssl (encs c35 x20.Cons) x20.Cons.length false ∧ t 58 = .sc (.int .i64 (x20.Cons.length : Int)) ∧ t 59 = .sc (.int .i64 v28) ∧ t 64 = .ssl (encs c40 x34.Fields) x34.Fields.length false ∧ t 65 = .sc (.int .i64 (x34.Fields.length : Int)) ∧ t 66 = .sc (.int .i64 v40) ∧ t 77 = .sc (.bool false) ∧ t 87 = .sc (.bool ((x45.Kind == 2) && (x45.Name.toList == x20.Name.toList))) ∧ H b21 = some (.cells (c32 x20) 32) ∧ b21 < n ∧ H b35 = some (.cells (c35 x34) 35) ∧ b35 < n ∧ b21 ≠ b35) (fun J11 hJ11 => ?_) ?_
                      · rcases Bool.eq_false_or_eq_true (x45.Kind == 2) with hb11 | hb11
                        · rw [hb11] at f81
                          refine Stk.run 6 (fun t H n => t 0 = .ssl (encs c32 a0) a0.length false ∧ t 6 = .ssl (encs c4 x11) x11.length false ∧ t 7 = .ssl (encs c4 x12) x12.length false ∧ t 8 = .sc (.bool v47) ∧ t 9 = .sc (.int .i64 v16) ∧ t 10 = .own b21 0 ∧ t 11 = .sc (.bool v26) ∧ t 12 = .sc (.bool v27) ∧ t 14 = .own b35 0 ∧ t 49 = .ssl (encs c32 a0) a0.length false ∧ t 50 = .sc (.int .i64 (a0.length : Int)) ∧ t 51 = .sc (.int .i64 v16) ∧ t 57 = .ssl (encs c35 x20.Cons) x20.Cons.length false ∧ t 58 = .sc (.int .i64 (x20.Cons.length : Int)) ∧ t 59 = .sc (.int .i64 v28) ∧ t 64 = .ssl (encs c40 x34.Fields) x34.Fields.length false ∧ t 65 = .sc (.int .i64 (x34.Fields.length : Int)) ∧ t 66 = .sc (.int .i64 v40) ∧ t 77 = .sc (.bool false) ∧ t 87 = .sc (.bool (x45.Name.toList == x20.Name.toList)) ∧ H b21 = some (.cells (c32 x20) 32) ∧ b21 < n ∧ H b35 = some (.cells (c35 x34) 35) ∧ b35 < n ∧ b21 ≠ b35) (fun J hJ => ?_) ?_
                          · simp [-splice, f0, f6, f7, f8, f9, f10, f11, f12, f14, f17, f49, f50, f51, f57, f58, f59, f64, f65, f66, f77, f81, b_b21, b_b35, b_b46, ld_40_1_9, ld_32_2_9]
                            exact hJ _ _ _ ⟨by simp [f0], by simp [f6], by simp [f7], by simp [f8], by simp [f9], by simp [f10], by simp [f11], by simp [f12], by simp [f14], by simp [f49], by simp [f50], by simp [f51], by simp [f57], by simp [f58], by simp [f59], by simp [f64], by simp [f65], by simp [f66], by simp [f77], by simp [-splice, f0, f6, f7, f8, f9, f10, f11, f12, f14, f17, f49, f50, f51, f57, f58, f59, f64, f65, f66, f77, f81, b_b21, b_b35, b_b46, ld_40_1_9, ld_32_2_9], b_b21, l_b21, b_b35, l_b35, d_b21_b35⟩
                          clear f0 f6 f7 f8 f9 f10 f11 f12 f14 f17 f49 f50 f51 f57 f58 f59 f64 f65 f66 f77 f81 b_b21 l_b21 b_b35 l_b35 b_b46 l_b46 d_b21_b35 d_b21_b46 d_b35_b46
                          rintro t H n ⟨f0, f6, f7, f8, f9, f10, f11, f12, f14, f49, f50, f51, f57, f58, f59, f64, f65, f66, f77, f87, b_b21, l_b21, b_b35, l_b35, d_b21_b35⟩
                          refine Stk.on ?_
                          exact Stk.ln 0 (by decide) (hJ11 _ _ _ ⟨f0, f6, f7, f8, f9, f10, f11, f12, f14, f49, f50, f51, f57, f58, f59, f64, f65, f66, f77, f87.trans (congrArg (fun q => AV.sc (.bool q)) (by rw [hb11]; rfl)), b_b21, l_b21, b_b35, l_b35, d_b21_b35⟩)
                        · rw [hb11] at f81
                          refine Stk.run 6 (fun t H n => t 0 = .ssl (encs c32 a0) a0.length false ∧ t 6 = .ssl (encs c4 x11) x11.length false ∧ t 7 = .ssl (encs c4 x12) x12.length false ∧ t 8 = .sc (.bool v47) ∧ t 9 = .sc (.int .i64 v16) ∧ t 10 = .own b21 0 ∧ t 11 = .sc (.bool v26) ∧ t 12 = .sc (.bool v27) ∧ t 14 = .own b35 0 ∧ t 49 = .ssl (encs c32 a0) a0.length false ∧ t 50 = .sc (.int .i64 (a0.length : Int)) ∧ t 51 = .sc (.int .i64 v16) ∧ t 57 = .ssl (encs c35 x20.Cons) x20.Cons.length false ∧ t 58 = .sc (.int .i64 (x20.Cons.length : Int)) ∧ t 59 = .sc (.int .i64 v28) ∧ t 64 = .ssl (encs c40 x34.Fields) x34.Fields.length false ∧ t 65 = .sc (.int .i64 (x34.Fields.length : Int)) ∧ t 66 = .sc (.int .i64 v40) ∧ t 77 = .sc (.bool false) ∧ t 87 = .sc (.bool false) ∧ H b21 = some (.cells (c32 x20) 32) ∧ b21 < n ∧ H b35 = some (.cells (c35 x34) 35) ∧ b35 < n ∧ b21 ≠ b35) (fun J hJ => ?_) ?_
                          · simp [-splice, f0, f6, f7, f8, f9, f10, f11, f12, f14, f17, f49, f50, f51, f57, f58, f59, f64, f65, f66, f77, f81, b_b21, b_b35, b_b46]
                            exact hJ _ _ _ ⟨by simp [f0], by simp [f6], by simp [f7], by simp [f8], by simp [f9], by simp [f10], by simp [f11], by simp [f12], by simp [f14], by simp [f49], by simp [f50], by simp [f51], by simp [f57], by simp [f58], by simp [f59], by simp [f64], by simp [f65], by simp [f66], by simp [f77], by simp [-splice, f0, f6, f7, f8, f9, f10, f11, f12, f14, f17, f49, f50, f51, f57, f58, f59, f64, f65, f66, f77, f81, b_b21, b_b35, b_b46], b_b21, l_b21, b_b35, l_b35, d_b21_b35⟩
                          clear f0 f6 f7 f8 f9 f10 f11 f12 f14 f17 f49 f50 f51 f57 f58 f59 f64 f65 f66 f77 f81 b_b21 l_b21 b_b35 l_b35 b_b46 l_b46 d_b21_b35 d_b21_b46 d_b35_b46
                          rintro t H n ⟨f0, f6, f7, f8, f9, f10, f11, f12, f14, f49, f50, f51, f57, f58, f59, f64, f65, f66, f77, f87, b_b21, l_b21, b_b35, l_b35, d_b21_b35⟩
                          refine Stk.on ?_
                          exact Stk.ln 0 (by decide) (hJ11 _ _ _ ⟨f0, f6, f7, f8, f9, f10, f11, f12, f14, f49, f50, f51, f57, f58, f59, f64, f65, f66, f77, f87.trans (congrArg (fun q => AV.sc (.bool q)) (by rw [hb11]; rfl)), b_b21, l_b21, b_b35, l_b35, d_b21_b35⟩)
                      clear f0 f6 f7 f8 f9 f10 f11 f12 f14 f17 f49 f50 f51 f57 f58 f59 f64 f65 f66 f77 f81 b_b21 l_b21 b_b35 l_b35 b_b46 l_b46 d_b21_b35 d_b21_b46 d_b35_b46
                      rintro t H n ⟨f0, f6, f7, f8, f9, f10, f11, f12, f14, f49, f50, f51, f57, f58, f59, f64, f65, f66, f77, f87, b_b21, l_b21, b_b35, l_b35, d_b21_b35⟩
                      refine Stk.run 1 (fun t H n => t 0 = .ssl (encs c32 a0) a0.length false ∧ t 6 = .ssl (encs c4 x11) x11.length false ∧ t 7 = .ssl (encs c4 x12) x12.length false ∧ t 8 = .sc (.bool v47) ∧ t 9 = .sc (.int .i64 v16) ∧ t 10 = .own b21 0 ∧ t 11 = .sc (.bool v26) ∧ t 12 = .sc (.bool v27) ∧ t 14 = .own b35 0 ∧ t 49 = .ssl (encs c32 a0) a0.length false ∧ t 50 = .sc (.int .i64 (a0.length : Int)) ∧ t 51 = .sc (.int .i64 v16) ∧ t 57 = .ssl (encs c35 x20.Cons) x20.Cons.length false ∧ t 58 = .sc (.int .i64 (x20.Cons.length : Int)) ∧ t 59 = .sc (.int .i64 v28) ∧ t 64 = .ssl (encs c40 x34.Fields) x34.Fields.length false ∧ t 65 = .sc (.int .i64 (x34.Fields.length : Int)) ∧ t 66 = .sc (.int .i64 v40) ∧ t 88 = .sc (.bool ((x45.Kind == 2) && (x45.Name.toList == x20.Name.toList))) ∧ H b21 = some (.cells (c32 x20) 32) ∧ b21 < n ∧ H b35 = some (.cells (c35 x34) 35) ∧ b35 < n ∧ b21 ≠ b35) (fun J hJ => ?_) ?_
                      · simp [-splice, f0, f6, f7, f8, f9, f10, f11, f12, f14, f49, f50, f51, f57, f58, f59, f64, f65, f66, f77, f87, b_b21, b_b35]
                        exact hJ _ _ _ ⟨by simp [f0], by simp [f6], by simp [f7], by simp [f8], by simp [f9], by simp [f10], by simp [f11], by simp [f12], by simp [f14], by simp [f49], by simp [f50], by simp [f51], by simp [f57], by simp [f58], by simp [f59], by simp [f64], by simp [f65], by simp [f66], by simp [-splice, f0, f6, f7, f8, f9, f10, f11, f12, f14, f49, f50, f51, f57, f58, f59, f64, f65, f66, f77, f87, b_b21, b_b35], b_b21, l_b21, b_b35, l_b35, d_b21_b35⟩
                      clear f0 f6 f7 f8 f9 f10 f11 f12 f14 f49 f50 f51 f57 f58 f59 f64 f65 f66 f77 f87 b_b21 l_b21 b_b35 l_b35 d_b21_b35
                      rintro t H n ⟨f0, f6, f7, f8, f9, f10, f11, f12, f14, f49, f50, f51, f57, f58, f59, f64, f65, f66, f88, b_b21, l_b21, b_b35, l_b35, d_b21_b35⟩
                      refine Stk.on ?_
                      exact Stk.ln 0 (by decide) (hJ10 _ _ _ ⟨f0, f6, f7, f8, f9, f10, f11, f12, f14, f49, f50, f51, f57, f58, f59, f64, f65, f66, f88.trans (congrArg (fun q => AV.sc (.bool q)) (by rw [hb10]; rfl)), b_b21, l_b21, b_b35, l_b35, d_b21_b35⟩)
                  clear f0 f6 f7 f8 f9 f10 f11 f12 f14 f17 f49 f50 f51 f57 f58 f59 f64 f65 f66 f77 b_b21 l_b21 b_b35 l_b35 b_b46 l_b46 d_b21_b35 d_b21_b46 d_b35_b46
                  rintro t H n ⟨f0, f6, f7, f8, f9, f10, f11, f12, f14, f49, f50, f51, f57, f58, f59, f64, f65, f66, f88, b_b21, l_b21, b_b35, l_b35, d_b21_b35⟩
                  refine Stk.run 1 (fun t H n => t 0 = .ssl (encs c32 a0) a0.length false ∧ t 6 = .ssl (encs c4 x11) x11.length false ∧ t 7 = .ssl (encs c4 x12) x12.length false ∧ t 8 = .sc (.bool v47) ∧ t 9 = .sc (.int .i64 v16) ∧ t 10 = .own b21 0 ∧ t 11 = .sc (.bool v26) ∧ t 12 = .sc (.bool v27) ∧ t 14 = .own b35 0 ∧ t 15 = .sc (.bool (v39 || ((x45.Kind == 2) && (x45.Name.toList == x20.Name.toList)))) ∧ t 49 = .ssl (encs c32 a0) a0.length false ∧ t 50 = .sc (.int .i64 (a0.length : Int)) ∧ t 51 = .sc (.int .i64 v16) ∧ t 57 = .ssl (encs c35 x20.Cons) x20.Cons.length false ∧ t 58 = .sc (.int .i64 (x20.Cons.length : Int)) ∧ t 59 = .sc (.int .i64 v28) ∧ t 64 = .ssl (encs c40 x34.Fields) x34.Fields.length false ∧ t 65 = .sc (.int .i64 (x34.Fields.length : Int)) ∧ t 66 = .sc (.int .i64 v40) ∧ H b21 = some (.cells (c32 x20) 32) ∧ b21 < n ∧ H b35 = some (.cells (c35 x34) 35) ∧ b35 < n ∧ b21 ≠ b35) (fun J hJ => ?_) ?_
                  · simp [-splice, f0, f6, f7, f8, f9, f10, f11, f12, f14, f49, f50, f51, f57, f58, f59, f64, f65, f66, f88, b_b21, b_b35]
                    exact hJ _ _ _ ⟨by simp [f0], by simp [f6], by simp [f7], by simp [f8], by simp [f9], by simp [f10], by simp [f11], by simp [f12], by simp [f14], by simp [-splice, f0, f6, f7, f8, f9, f10, f11, f12, f14, f49, f50, f51, f57, f58, f59, f64, f65, f66, f88, b_b21, b_b35], by simp [f49], by simp [f50], by simp [f51], by simp [f57], by simp [f58], by simp [f59], by simp [f64], by simp [f65], by simp [f66], b_b21, l_b21, b_b35, l_b35, d_b21_b35⟩
                  clear f0 f6 f7 f8 f9 f10 f11 f12 f14 f49 f50 f51 f57 f58 f59 f64 f65 f66 f88 b_b21 l_b21 b_b35 l_b35 d_b21_b35
                  rintro t H n ⟨f0, f6, f7, f8, f9, f10, f11, f12, f14, f15, f49, f50, f51, f57, f58, f59, f64, f65, f66, b_b21, l_b21, b_b35, l_b35, d_b21_b35⟩
                  refine Stk.on ?_
                  refine Stk.bn ?_
                  refine Stk.rg ?_
                  refine Stk.run 2 (fun t H n => t 0 = .ssl (encs c32 a0) a0.length false ∧ t 6 = .ssl (encs c4 x11) x11.length false ∧ t 7 = .ssl (encs c4 x12) x12.length false ∧ t 8 = .sc (.bool v47) ∧ t 9 = .sc (.int .i64 v16) ∧ t 10 = .own b21 0 ∧ t 11 = .sc (.bool v26) ∧ t 12 = .sc (.bool v27) ∧ t 14 = .own b35 0 ∧ t 15 = .sc (.bool (v39 || ((x45.Kind == 2) && (x45.Name.toList == x20.Name.toList)))) ∧ t 49 = .ssl (encs c32 a0) a0.length false ∧ t 50 = .sc (.int .i64 (a0.length : Int)) ∧ t 51 = .sc (.int .i64 v16) ∧ t 57 = .ssl (encs c35 x20.Cons) x20.Cons.length false ∧ t 58 = .sc (.int .i64 (x20.Cons.length : Int)) ∧ t 59 = .sc (.int .i64 v28) ∧ t 64 = .ssl (encs c40 x34.Fields) x34.Fields.length false ∧ t 65 = .sc (.int .i64 (x34.Fields.length : Int)) ∧ t 66 = .sc (.int .i64 (IntKind.i64.wrap (v40 + 1))) ∧ H b21 = some (.cells (c32 x20) 32) ∧ b21 < n ∧ H b35 = some (.cells (c35 x34) 35) ∧ b35 < n ∧ b21 ≠ b35) (fun J hJ => ?_) ?_
                  · simp [-splice, f0, f6, f7, f8, f9, f10, f11, f12, f14, f15, f49, f50, f51, f57, f58, f59, f64, f65, f66, b_b21, b_b35]
                    exact hJ _ _ _ ⟨by simp [f0], by simp [f6], by simp [f7], by simp [f8], by simp [f9], by simp [f10], by simp [f11], by simp [f12], by simp [f14], by simp [f15], by simp [f49], by simp [f50], by simp [f51], by simp [f57], by simp [f58], by simp [f59], by simp [f64], by simp [f65], by simp [-splice, f0, f6, f7, f8, f9, f10, f11, f12, f14, f15, f49, f50, f51, f57, f58, f59, f64, f65, f66, b_b21, b_b35], b_b21, l_b21, b_b35, l_b35, d_b21_b35⟩
                  clear f0 f6 f7 f8 f9 f10 f11 f12 f14 f15 f49 f50 f51 f57 f58 f59 f64 f65 f66 b_b21 l_b21 b_b35 l_b35 d_b21_b35
                  rintro t H n ⟨f0, f6, f7, f8, f9, f10, f11, f12, f14, f15, f49, f50, f51, f57, f58, f59, f64, f65, f66, b_b21, l_b21, b_b35, l_b35, d_b21_b35⟩
                  refine Stk.on ?_
                  exact Stk.ln μ (Nat.lt_succ_self _) (hJ8 _ _ _ _ ⟨v47, (v39 || ((x45.Kind == 2) && (x45.Name.toList == x20.Name.toList))), (IntKind.i64.wrap (v40 + 1)), h, f0, f6, f7, f8, f9, f10, f11, f12, f14, f15, f49, f50, f51, f57, f58, f59, f64, f65, f66, b_b21, l_b21, b_b35, l_b35, d_b21_b35⟩)
                · have h := cF hb44 h
                  refine Stk.ex rfl ?_
                  exact Stk.ln 0 (by decide) (hJ7 _ _ _ ⟨v38, v39, h, f0, f6, f7, f8, f9, f10, f11, f12, f14, f15, f49, f50, f51, f57, f58, f59, b_b21, l_b21, b_b35, l_b35, d_b21_b35⟩)
              clear h f0 f6 f7 f8 f9 f10 f11 f12 f14 f15 f49 f50 f51 f57 f58 f59 f64 f65 f66 b_b21 l_b21 b_b35 l_b35 d_b21_b35
              rintro t H n ⟨v36, v37, h, f0, f6, f7, f8, f9, f10, f11, f12, f14, f15, f49, f50, f51, f57, f58, f59, b_b21, l_b21, b_b35, l_b35, d_b21_b35⟩
              subst hK7
              refine Stk.rg ?_
              refine Stk.run 2 (fun t H n => t 0 = .ssl (encs c32 a0) a0.length false ∧ t 6 = .ssl (encs c4 x11) x11.length false ∧ t 7 = .ssl (encs c4 x12) x12.length false ∧ t 8 = .sc (.bool v36) ∧ t 9 = .sc (.int .i64 v16) ∧ t 10 = .own b21 0 ∧ t 12 = .sc (.bool v27) ∧ t 14 = .own b35 0 ∧ t 15 = .sc (.bool v37) ∧ t 49 = .ssl (encs c32 a0) a0.length false ∧ t 50 = .sc (.int .i64 (a0.length : Int)) ∧ t 51 = .sc (.int .i64 v16) ∧ t 57 = .ssl (encs c35 x20.Cons) x20.Cons.length false ∧ t 58 = .sc (.int .i64 (x20.Cons.length : Int)) ∧ t 59 = .sc (.int .i64 v28) ∧ t 91 = .sc (.bool v26) ∧ H b21 = some (.cells (c32 x20) 32) ∧ b21 < n ∧ H b35 = some (.cells (c35 x34) 35) ∧ b35 < n ∧ b21 ≠ b35) (fun J hJ => ?_) ?_
              · simp [-splice, f0, f6, f7, f8, f9, f10, f11, f12, f14, f15, f49, f50, f51, f57, f58, f59, b_b21, b_b35]
                exact hJ _ _ _ ⟨by simp [f0], by simp [f6], by simp [f7], by simp [f8], by simp [f9], by simp [f10], by simp [f12], by simp [f14], by simp [f15], by simp [f49], by simp [f50], by simp [f51], by simp [f57], by simp [f58], by simp [f59], by simp [-splice, f0, f6, f7, f8, f9, f10, f11, f12, f14, f15, f49, f50, f51, f57, f58, f59, b_b21, b_b35], b_b21, l_b21, b_b35, l_b35, d_b21_b35⟩
              clear f0 f6 f7 f8 f9 f10 f11 f12 f14 f15 f49 f50 f51 f57 f58 f59 b_b21 l_b21 b_b35 l_b35 d_b21_b35
              rintro t H n ⟨f0, f6, f7, f8, f9, f10, f12, f14, f15, f49, f50, f51, f57, f58, f59, f91, b_b21, l_b21, b_b35, l_b35, d_b21_b35⟩
              refine Stk.jo 5 (fun t H n => t 0 = .ssl (encs c32 a0) a0.length false ∧ t 6 = .ssl (encs c4 x11) x11.length false ∧ t 7 = .ssl (encs c4 x12) x12.length false ∧ t 8 = .sc (.bool v36) ∧ t 9 = .sc (.int .i64 v16) ∧ t 10 = .own b21 0 ∧ t 12 = .sc (.bool v27) ∧ t 15 = .sc (.bool v37) ∧ t 49 = .ssl (encs c32 a0) a0.length false ∧ t 50 = .sc (.int .i64 (a0.length : Int)) ∧ t 51 = .sc (.int .i64 v16) ∧ t 57 = .ssl (encs c35 x20.Cons) x20.Cons.length false ∧ t 58 = .sc (.int .i64 (x20.Cons.length : Int)) ∧ t 59 = .sc (.int .i64 v28) ∧ t 96 = .sc (.bool (v26 || ((x34.Fields.length : Int) == 0))) ∧ H b21 = some (.cells (c32 x20) 32) ∧ b21 < n) (fun J12 hJ12 => ?_) ?_
              · rcases Bool.eq_false_or_eq_true v26 with hb12 | hb12
                · rw [hb12] at f91
                  refine Stk.run 5 (fun t H n => t 0 = .ssl (encs c32 a0) a0.length false ∧ t 6 = .ssl (encs c4 x11) x11.length false ∧ t 7 = .ssl (encs c4 x12) x12.length false ∧ t 8 = .sc (.bool v36) ∧ t 9 = .sc (.int .i64 v16) ∧ t 10 = .own b21 0 ∧ t 12 = .sc (.bool v27) ∧ t 15 = .sc (.bool v37) ∧ t 49 = .ssl (encs c32 a0) a0.length false ∧ t 50 = .sc (.int .i64 (a0.length : Int)) ∧ t 51 = .sc (.int .i64 v16) ∧ t 57 = .ssl (encs c35 x20.Cons) x20.Cons.length false ∧ t 58 = .sc (.int .i64 (x20.Cons.length : Int)) ∧ t 59 = .sc (.int .i64 v28) ∧ t 96 = .sc (.bool true) ∧ H b21 = some (.cells (c32 x20) 32) ∧ b21 < n) (fun J hJ => ?_) ?_
                  · simp [-splice, f0, f6, f7, f8, f9, f10, f12, f14, f15, f49, f50, f51, f57, f58, f59, f91, b_b21, b_b35]
                    exact hJ _ _ _ ⟨by simp [f0], by simp [f6], by simp [f7], by simp [f8], by simp [f9], by simp [f10], by simp [f12], by simp [f15], by simp [f49], by simp [f50], by simp [f51], by simp [f57], by simp [f58], by simp [f59], by simp [-splice, f0, f6, f7, f8, f9, f10, f12, f14, f15, f49, f50, f51, f57, f58, f59, f91, b_b21, b_b35], b_b21, l_b21⟩
                  clear f0 f6 f7 f8 f9 f10 f12 f14 f15 f49 f50 f51 f57 f58 f59 f91 b_b21 l_b21 b_b35 l_b35 d_b21_b35
                  rintro t H n ⟨f0, f6, f7, f8, f9, f10, f12, f15, f49, f50, f51, f57, f58, f59, f96, b_b21, l_b21⟩
                  refine Stk.on ?_
                  exact Stk.ln 0 (by decide) (hJ12 _ _ _ ⟨f0, f6, f7, f8, f9, f10, f12, f15, f49, f50, f51, f57, f58, f59, f96.trans (congrArg (fun q => AV.sc (.bool q)) (by rw [hb12]; rfl)), b_b21, l_b21⟩)
                · rw [hb12] at f91
                  refine Stk.run 5 (fun t H n => t 0 = .ssl (encs c32 a0) a0.length false ∧ t 6 = .ssl (encs c4 x11) x11.length false ∧ t 7 = .ssl (encs c4 x12) x12.length false ∧ t 8 = .sc (.bool v36) ∧ t 9 = .sc (.int .i64 v16) ∧ t 10 = .own b21 0 ∧ t 12 = .sc (.bool v27) ∧ t 15 = .sc (.bool v37) ∧ t 49 = .ssl (encs c32 a0) a0.length false ∧ t 50 = .sc (.int .i64 (a0.length : Int)) ∧ t 51 = .sc (.int .i64 v16) ∧ t 57 = .ssl (encs c35 x20.Cons) x20.Cons.length false ∧ t 58 = .sc (.int .i64 (x20.Cons.length : Int)) ∧ t 59 = .sc (.int .i64 v28) ∧ t 96 = .sc (.bool ((x34.Fields.length : Int) == 0)) ∧ H b21 = some (.cells (c32 x20) 32) ∧ b21 < n) (fun J hJ => ?_) ?_
                  · simp [-splice, f0, f6, f7, f8, f9, f10, f12, f14, f15, f49, f50, f51, f57, f58, f59, f91, b_b21, b_b35, ld_35_1_33]
                    exact hJ _ _ _ ⟨by simp [f0], by simp [f6], by simp [f7], by simp [f8], by simp [f9], by simp [f10], by simp [f12], by simp [f15], by simp [f49], by simp [f50], by simp [f51], by simp [f57], by simp [f58], by simp [f59], by simp [-splice, f0, f6, f7, f8, f9, f10, f12, f14, f15, f49, f50, f51, f57, f58, f59, f91, b_b21, b_b35, ld_35_1_33], b_b21, l_b21⟩
                  clear f0 f6 f7 f8 f9 f10 f12 f14 f15 f49 f50 f51 f57 f58 f59 f91 b_b21 l_b21 b_b35 l_b35 d_b21_b35
                  rintro t H n ⟨f0, f6, f7, f8, f9, f10, f12, f15, f49, f50, f51, f57, f58, f59, f96, b_b21, l_b21⟩
                  refine Stk.on ?_
                  exact Stk.ln 0 (by decide) (hJ12 _ _ _ ⟨f0, f6, f7, f8, f9, f10, f12, f15, f49, f50, f51, f57, f58, f59, f96.trans (congrArg (fun q => AV.sc (.bool q)) (by rw [hb12]; rfl)), b_b21, l_b21⟩)
              clear f0 f6 f7 f8 f9 f10 f12 f14 f15 f49 f50 f51 f57 f58 f59 f91 b_b21 l_b21 b_b35 l_b35 d_b21_b35
              rintro t H n ⟨f0, f6, f7, f8, f9, f10, f12, f15, f49, f50, f51, f57, f58, f59, f96, b_b21, l_b21⟩
              refine Stk.run 2 (fun t H n => t 0 = .ssl (encs c32 a0) a0.length false ∧ t 6 = .ssl (encs c4 x11) x11.length false ∧ t 7 = .ssl (encs c4 x12) x12.length false ∧ t 8 = .sc (.bool v36) ∧ t 9 = .sc (.int .i64 v16) ∧ t 10 = .own b21 0 ∧ t 15 = .sc (.bool v37) ∧ t 49 = .ssl (encs c32 a0) a0.length false ∧ t 50 = .sc (.int .i64 (a0.length : Int)) ∧ t 51 = .sc (.int .i64 v16) ∧ t 57 = .ssl (encs c35 x20.Cons) x20.Cons.length false ∧ t 58 = .sc (.int .i64 (x20.Cons.length : Int)) ∧ t 59 = .sc (.int .i64 v28) ∧ t 96 = .sc (.bool (v26 || ((x34.Fields.length : Int) == 0))) ∧ t 98 = .sc (.bool v27) ∧ H b21 = some (.cells (c32 x20) 32) ∧ b21 < n) (fun J hJ => ?_) ?_
              · simp [-splice, f0, f6, f7, f8, f9, f10, f12, f15, f49, f50, f51, f57, f58, f59, f96, b_b21]
                exact hJ _ _ _ ⟨by simp [f0], by simp [f6], by simp [f7], by simp [f8], by simp [f9], by simp [f10], by simp [f15], by simp [f49], by simp [f50], by simp [f51], by simp [f57], by simp [f58], by simp [f59], by simp [f96], by simp [-splice, f0, f6, f7, f8, f9, f10, f12, f15, f49, f50, f51, f57, f58, f59, f96, b_b21], b_b21, l_b21⟩
              clear f0 f6 f7 f8 f9 f10 f12 f15 f49 f50 f51 f57 f58 f59 f96 b_b21 l_b21
              rintro t H n ⟨f0, f6, f7, f8, f9, f10, f15, f49, f50, f51, f57, f58, f59, f96, f98, b_b21, l_b21⟩
              refine Stk.jo 2 (fun t H n => t 0 = .ssl (encs c32 a0) a0.length false ∧ t 6 = .ssl (encs c4 x11) x11.length false ∧ t 7 = .ssl (encs c4 x12) x12.length false ∧ t 8 = .sc (.bool v36) ∧ t 9 = .sc (.int .i64 v16) ∧ t 10 = .own b21 0 ∧ t 49 = .ssl (encs c32 a0) a0.length false ∧ t 50 = .sc (.int .i64 (a0.length : Int)) ∧ t 51 = .sc (.int .i64 v16) ∧ t 57 = .ssl (encs c35 x20.Cons) x20.Cons.length false ∧ t 58 = .sc (.int .i64 (x20.Cons.length : Int)) ∧ t 59 = .sc (.int .i64 v28) ∧ t 96 = .sc (.bool (v26 || ((x34.Fields.length : Int) == 0))) ∧ t 100 = .sc (.bool (v27 && v37)) ∧ H b21 = some (.cells (c32 x20) 32) ∧ b21 < n) (fun J13 hJ13 => ?_) ?_
              · rcases Bool.eq_false_or_eq_true v27 with hb13 | hb13
                · rw [hb13] at f98
                  refine Stk.run 2 (fun t H n => t 0 = .ssl (encs c32 a0) a0.length false ∧ t 6 = .ssl (encs c4 x11) x11.length false ∧ t 7 = .ssl (encs c4 x12) x12.length false ∧ t 8 = .sc (.bool v36) ∧ t 9 = .sc (.int .i64 v16) ∧ t 10 = .own b21 0 ∧ t 49 = .ssl (encs c32 a0) a0.length false ∧ t 50 = .sc (.int .i64 (a0.length : Int)) ∧ t 51 = .sc (.int .i64 v16) ∧ t 57 = .ssl (encs c35 x20.Cons) x20.Cons.length false ∧ t 58 = .sc (.int .i64 (x20.Cons.length : Int)) ∧ t 59 = .sc (.int .i64 v28) ∧ t 96 = .sc (.bool (v26 || ((x34.Fields.length : Int) == 0))) ∧ t 100 = .sc (.bool v37) ∧ H b21 = some (.cells (c32 x20) 32) ∧ b21 < n) (fun J hJ => ?_) ?_
                  · simp [-splice, f0, f6, f7, f8, f9, f10, f15, f49, f50, f51, f57, f58, f59, f96, f98, b_b21]
                    exact hJ _ _ _ ⟨by simp [f0], by simp [f6], by simp [f7], by simp [f8], by simp [f9], by simp [f10], by simp [f49], by simp [f50], by simp [f51], by simp [f57], by simp [f58], by simp [f59], by simp [f96], by simp [-splice, f0, f6, f7, f8, f9, f10, f15, f49, f50, f51, f57, f58, f59, f96, f98, b_b21], b_b21, l_b21⟩
                  clear f0 f6 f7 f8 f9 f10 f15 f49 f50 f51 f57 f58 f59 f96 f98 b_b21 l_b21
                  rintro t H n ⟨f0, f6, f7, f8, f9, f10, f49, f50, f51, f57, f58, f59, f96, f100, b_b21, l_b21⟩
                  refine Stk.on ?_
                  exact Stk.ln 0 (by decide) (hJ13 _ _ _ ⟨f0, f6, f7, f8, f9, f10, f49, f50, f51, f57, f58, f59, f96, f100.trans (congrArg (fun q => AV.sc (.bool q)) (by rw [hb13]; rfl)), b_b21, l_b21⟩)
                · rw [hb13] at f98
                  refine Stk.run 2 (fun t H n => t 0 = .ssl (encs c32 a0) a0.length false ∧ t 6 = .ssl (encs c4 x11) x11.length false ∧ t 7 = .ssl (encs c4 x12) x12.length false ∧ t 8 = .sc (.bool v36) ∧ t 9 = .sc (.int .i64 v16) ∧ t 10 = .own b21 0 ∧ t 49 = .ssl (encs c32 a0) a0.length false ∧ t 50 = .sc (.int .i64 (a0.length : Int)) ∧ t 51 = .sc (.int .i64 v16) ∧ t 57 = .ssl (encs c35 x20.Cons) x20.Cons.length false ∧ t 58 = .sc (.int .i64 (x20.Cons.length : Int)) ∧ t 59 = .sc (.int .i64 v28) ∧ t 96 = .sc (.bool (v26 || ((x34.Fields.length : Int) == 0))) ∧ t 100 = .sc (.bool false) ∧ H b21 = some (.cells (c32 x20) 32) ∧ b21 < n) (fun J hJ => ?_) ?_
                  · simp [-splice, f0, f6, f7, f8, f9, f10, f15, f49, f50, f51, f57, f58, f59, f96, f98, b_b21]
                    exact hJ _ _ _ ⟨by simp [f0], by simp [f6], by simp [f7], by simp [f8], by simp [f9], by simp [f10], by simp [f49], by simp [f50], by simp [f51], by simp [f57], by simp [f58], by simp [f59], by simp [f96], by simp [-splice, f0, f6, f7, f8, f9, f10, f15, f49, f50, f51, f57, f58, f59, f96, f98, b_b21], b_b21, l_b21⟩
                  clear f0 f6 f7 f8 f9 f10 f15 f49 f50 f51 f57 f58 f59 f96 f98 b_b21 l_b21
                  rintro t H n ⟨f0, f6, f7, f8, f9, f10, f49, f50, f51, f57, f58, f59, f96, f100, b_b21, l_b21⟩
                  refine Stk.on ?_
                  exact Stk.ln 0 (by decide) (hJ13 _ _ _ ⟨f0, f6, f7, f8, f9, f10, f49, f50, f51, f57, f58, f59, f96, f100.trans (congrArg (fun q => AV.sc (.bool q)) (by rw [hb13]; rfl)), b_b21, l_b21⟩)
              clear f0 f6 f7 f8 f9 f10 f15 f49 f50 f51 f57 f58 f59 f96 f98 b_b21 l_b21
              rintro t H n ⟨f0, f6, f7, f8, f9, f10, f49, f50, f51, f57, f58, f59, f96, f100, b_b21, l_b21⟩
              refine Stk.run 2 (fun t H n => t 0 = .ssl (encs c32 a0) a0.length false ∧ t 6 = .ssl (encs c4 x11) x11.length false ∧ t 7 = .ssl (encs c4 x12) x12.length false ∧ t 8 = .sc (.bool v36) ∧ t 9 = .sc (.int .i64 v16) ∧ t 10 = .own b21 0 ∧ t 11 = .sc (.bool (v26 || ((x34.Fields.length : Int) == 0))) ∧ t 12 = .sc (.bool (v27 && v37)) ∧ t 49 = .ssl (encs c32 a0) a0.length false ∧ t 50 = .sc (.int .i64 (a0.length : Int)) ∧ t 51 = .sc (.int .i64 v16) ∧ t 57 = .ssl (encs c35 x20.Cons) x20.Cons.length false ∧ t 58 = .sc (.int .i64 (x20.Cons.length : Int)) ∧ t 59 = .sc (.int .i64 v28) ∧ H b21 = some (.cells (c32 x20) 32) ∧ b21 < n) (fun J hJ => ?_) ?_
              · simp [-splice, f0, f6, f7, f8, f9, f10, f49, f50, f51, f57, f58, f59, f96, f100, b_b21]
                exact hJ _ _ _ ⟨by simp [f0], by simp [f6], by simp [f7], by simp [f8], by simp [f9], by simp [f10], by simp [-splice, f0, f6, f7, f8, f9, f10, f49, f50, f51, f57, f58, f59, f96, f100, b_b21], by simp [-splice, f0, f6, f7, f8, f9, f10, f49, f50, f51, f57, f58, f59, f96, f100, b_b21], by simp [f49], by simp [f50], by simp [f51], by simp [f57], by simp [f58], by simp [f59], b_b21, l_b21⟩
              clear f0 f6 f7 f8 f9 f10 f49 f50 f51 f57 f58 f59 f96 f100 b_b21 l_b21
              rintro t H n ⟨f0, f6, f7, f8, f9, f10, f11, f12, f49, f50, f51, f57, f58, f59, b_b21, l_b21⟩
              refine Stk.on ?_
              refine Stk.bn ?_
              refine Stk.rg ?_
              refine Stk.run 2 (fun t H n => t 0 = .ssl (encs c32 a0) a0.length false ∧ t 6 = .ssl (encs c4 x11) x11.length false ∧ t 7 = .ssl (encs c4 x12) x12.length false ∧ t 8 = .sc (.bool v36) ∧ t 9 = .sc (.int .i64 v16) ∧ t 10 = .own b21 0 ∧ t 11 = .sc (.bool (v26 || ((x34.Fields.length : Int) == 0))) ∧ t 12 = .sc (.bool (v27 && v37)) ∧ t 49 = .ssl (encs c32 a0) a0.length false ∧ t 50 = .sc (.int .i64 (a0.length : Int)) ∧ t 51 = .sc (.int .i64 v16) ∧ t 57 = .ssl (encs c35 x20.Cons) x20.Cons.length false ∧ t 58 = .sc (.int .i64 (x20.Cons.length : Int)) ∧ t 59 = .sc (.int .i64 (IntKind.i64.wrap (v28 + 1))) ∧ H b21 = some (.cells (c32 x20) 32) ∧ b21 < n) (fun J hJ => ?_) ?_
              · simp [-splice, f0, f6, f7, f8, f9, f10, f11, f12, f49, f50, f51, f57, f58, f59, b_b21]
                exact hJ _ _ _ ⟨by simp [f0], by simp [f6], by simp [f7], by simp [f8], by simp [f9], by simp [f10], by simp [f11], by simp [f12], by simp [f49], by simp [f50], by simp [f51], by simp [f57], by simp [f58], by simp [-splice, f0, f6, f7, f8, f9, f10, f11, f12, f49, f50, f51, f57, f58, f59, b_b21], b_b21, l_b21⟩
              clear f0 f6 f7 f8 f9 f10 f11 f12 f49 f50 f51 f57 f58 f59 b_b21 l_b21
              rintro t H n ⟨f0, f6, f7, f8, f9, f10, f11, f12, f49, f50, f51, f57, f58, f59, b_b21, l_b21⟩
              refine Stk.on ?_
              exact Stk.ln μ (Nat.lt_succ_self _) (hJ6 _ _ _ _ ⟨v36, (v26 || ((x34.Fields.length : Int) == 0)), (v27 && v37), (IntKind.i64.wrap (v28 + 1)), h, f0, f6, f7, f8, f9, f10, f11, f12, f49, f50, f51, f57, f58, f59, b_b21, l_b21⟩)
            · have h := cF hb33 h
              refine Stk.ex rfl ?_
              exact Stk.ln 0 (by decide) (hJ5 _ _ _ ⟨v25, v26, v27, h, f0, f6, f7, f8, f9, f10, f11, f12, f49, f50, f51, b_b21, l_b21⟩)
          clear h f0 f6 f7 f8 f9 f10 f11 f12 f49 f50 f51 f57 f58 f59 b_b21 l_b21
          rintro t H n ⟨v22, v23, v24, h, f0, f6, f7, f8, f9, f10, f11, f12, f49, f50, f51, b_b21, l_b21⟩
          subst hK5
          refine Stk.sq ?_
          refine Stk.rg ?_
          refine Stk.run 2 (fun t H n => t 0 = .ssl (encs c32 a0) a0.length false ∧ t 6 = .ssl (encs c4 x11) x11.length false ∧ t 7 = .ssl (encs c4 x12) x12.length false ∧ t 8 = .sc (.bool v22) ∧ t 9 = .sc (.int .i64 v16) ∧ t 10 = .own b21 0 ∧ t 12 = .sc (.bool v24) ∧ t 49 = .ssl (encs c32 a0) a0.length false ∧ t 50 = .sc (.int .i64 (a0.length : Int)) ∧ t 51 = .sc (.int .i64 v16) ∧ t 103 = .sc (.bool v23) ∧ H b21 = some (.cells (c32 x20) 32) ∧ b21 < n) (fun J hJ => ?_) ?_
          · simp [-splice, f0, f6, f7, f8, f9, f10, f11, f12, f49, f50, f51, b_b21]
            exact hJ _ _ _ ⟨by simp [f0], by simp [f6], by simp [f7], by simp [f8], by simp [f9], by simp [f10], by simp [f12], by simp [f49], by simp [f50], by simp [f51], by simp [-splice, f0, f6, f7, f8, f9, f10, f11, f12, f49, f50, f51, b_b21], b_b21, l_b21⟩
          clear f0 f6 f7 f8 f9 f10 f11 f12 f49 f50 f51 b_b21 l_b21
          rintro t H n ⟨f0, f6, f7, f8, f9, f10, f12, f49, f50, f51, f103, b_b21, l_b21⟩
          obtain ⟨K14, hK14, h⟩ := jnd h
          refine Stk.jo 6 (fun t H n => ∃ v49 : Bool, K14 v49 = some r ∧ t 0 = .ssl (encs c32 a0) a0.length false ∧ t 6 = .ssl (encs c4 x11) x11.length false ∧ t 7 = .ssl (encs c4 x12) x12.length false ∧ t 8 = .sc (.bool v22) ∧ t 9 = .sc (.int .i64 v16) ∧ t 10 = .own b21 0 ∧ t 12 = .sc (.bool v24) ∧ t 49 = .ssl (encs c32 a0) a0.length false ∧ t 50 = .sc (.int .i64 (a0.length : Int)) ∧ t 51 = .sc (.int .i64 v16) ∧ t 109 = .sc (.bool v49) ∧ H b21 = some (.cells (c32 x20) 32) ∧ b21 < n) (fun J14 hJ14 => ?_) ?_
          · rcases Bool.eq_false_or_eq_true v23 with hb14 | hb14
            · rw [hb14] at f103
              replace h := cT hb14 h
              obtain ⟨x50, hx50, h⟩ := bnd h
              obtain ⟨i0x50, i1x50, i2x50, _⟩ := idx_ok hx50
              have ex50_0_4 : partOf T.T 4 (encs c4 x11) (v16.toNat) = some (.sc (.bool x50)) := by
                  have e0 := part_elem0 (e := c4) (z := 1) (T := T.T) (ty := 4) T.t4 (by decide) (by decide) hx50 0 (by decide)
                  (try simp only [Nat.mul_one, Nat.add_zero] at e0)
                  exact e0.trans rfl
              refine Stk.run 6 (fun t H n => t 0 = .ssl (encs c32 a0) a0.length false ∧ t 6 = .ssl (encs c4 x11) x11.length false ∧ t 7 = .ssl (encs c4 x12) x12.length false ∧ t 8 = .sc (.bool v22) ∧ t 9 = .sc (.int .i64 v16) ∧ t 10 = .own b21 0 ∧ t 12 = .sc (.bool v24) ∧ t 49 = .ssl (encs c32 a0) a0.length false ∧ t 50 = .sc (.int .i64 (a0.length : Int)) ∧ t 51 = .sc (.int .i64 v16) ∧ t 109 = .sc (.bool (!x50)) ∧ H b21 = some (.cells (c32 x20) 32) ∧ b21 < n) (fun J hJ => ?_) ?_
              · simp [-splice, f0, f6, f7, f8, f9, f10, f12, f49, f50, f51, f103, b_b21, i0x50, i1x50, pd4, ex50_0_4]
                exact hJ _ _ _ ⟨by simp [f0], by simp [f6], by simp [f7], by simp [f8], by simp [f9], by simp [f10], by simp [f12], by simp [f49], by simp [f50], by simp [f51], by simp [-splice, f0, f6, f7, f8, f9, f10, f12, f49, f50, f51, f103, b_b21, i0x50, i1x50, pd4, ex50_0_4], b_b21, l_b21⟩
              clear f0 f6 f7 f8 f9 f10 f12 f49 f50 f51 f103 b_b21 l_b21
              rintro t H n ⟨f0, f6, f7, f8, f9, f10, f12, f49, f50, f51, f109, b_b21, l_b21⟩
              refine Stk.on ?_
              exact Stk.ln 0 (by decide) (hJ14 _ _ _ ⟨(!x50), h, f0, f6, f7, f8, f9, f10, f12, f49, f50, f51, f109, b_b21, l_b21⟩)
            · rw [hb14] at f103
              replace h := cF hb14 h
              refine Stk.run 6 (fun t H n => t 0 = .ssl (encs c32 a0) a0.length false ∧ t 6 = .ssl (encs c4 x11) x11.length false ∧ t 7 = .ssl (encs c4 x12) x12.length false ∧ t 8 = .sc (.bool v22) ∧ t 9 = .sc (.int .i64 v16) ∧ t 10 = .own b21 0 ∧ t 12 = .sc (.bool v24) ∧ t 49 = .ssl (encs c32 a0) a0.length false ∧ t 50 = .sc (.int .i64 (a0.length : Int)) ∧ t 51 = .sc (.int .i64 v16) ∧ t 109 = .sc (.bool false) ∧ H b21 = some (.cells (c32 x20) 32) ∧ b21 < n) (fun J hJ => ?_) ?_
              · simp [-splice, f0, f6, f7, f8, f9, f10, f12, f49, f50, f51, f103, b_b21]
                exact hJ _ _ _ ⟨by simp [f0], by simp [f6], by simp [f7], by simp [f8], by simp [f9], by simp [f10], by simp [f12], by simp [f49], by simp [f50], by simp [f51], by simp [-splice, f0, f6, f7, f8, f9, f10, f12, f49, f50, f51, f103, b_b21], b_b21, l_b21⟩
              clear f0 f6 f7 f8 f9 f10 f12 f49 f50 f51 f103 b_b21 l_b21
              rintro t H n ⟨f0, f6, f7, f8, f9, f10, f12, f49, f50, f51, f109, b_b21, l_b21⟩
              refine Stk.on ?_
              exact Stk.ln 0 (by decide) (hJ14 _ _ _ ⟨false, h, f0, f6, f7, f8, f9, f10, f12, f49, f50, f51, f109, b_b21, l_b21⟩)
          clear h f0 f6 f7 f8 f9 f10 f12 f49 f50 f51 f103 b_b21 l_b21
          rintro t H n ⟨v49, h, f0, f6, f7, f8, f9, f10, f12, f49, f50, f51, f109, b_b21, l_b21⟩
          subst hK14
          refine Stk.run 1 (fun t H n => t 0 = .ssl (encs c32 a0) a0.length false ∧ t 6 = .ssl (encs c4 x11) x11.length false ∧ t 7 = .ssl (encs c4 x12) x12.length false ∧ t 8 = .sc (.bool v22) ∧ t 9 = .sc (.int .i64 v16) ∧ t 10 = .own b21 0 ∧ t 12 = .sc (.bool v24) ∧ t 49 = .ssl (encs c32 a0) a0.length false ∧ t 50 = .sc (.int .i64 (a0.length : Int)) ∧ t 51 = .sc (.int .i64 v16) ∧ t 110 = .sc (.bool v49) ∧ H b21 = some (.cells (c32 x20) 32) ∧ b21 < n) (fun J hJ => ?_) ?_
          · simp [-splice, f0, f6, f7, f8, f9, f10, f12, f49, f50, f51, f109, b_b21]
            exact hJ _ _ _ ⟨by simp [f0], by simp [f6], by simp [f7], by simp [f8], by simp [f9], by simp [f10], by simp [f12], by simp [f49], by simp [f50], by simp [f51], by simp [-splice, f0, f6, f7, f8, f9, f10, f12, f49, f50, f51, f109, b_b21], b_b21, l_b21⟩
          clear f0 f6 f7 f8 f9 f10 f12 f49 f50 f51 f109 b_b21 l_b21
          rintro t H n ⟨f0, f6, f7, f8, f9, f10, f12, f49, f50, f51, f110, b_b21, l_b21⟩
          obtain ⟨K15, hK15, h⟩ := jnd h
          refine Stk.jo 16 (fun t H n => ∃ v51 : Bool, K15 v51 = some r ∧ t 0 = .ssl (encs c32 a0) a0.length false ∧ t 6 = .ssl (encs c4 x11) x11.length false ∧ t 7 = .ssl (encs c4 x12) x12.length false ∧ t 8 = .sc (.bool v22) ∧ t 49 = .ssl (encs c32 a0) a0.length false ∧ t 50 = .sc (.int .i64 (a0.length : Int)) ∧ t 51 = .sc (.int .i64 v16) ∧ t 126 = .sc (.bool v51)) (fun J15 hJ15 => ?_) ?_
          · rcases Bool.eq_false_or_eq_true v49 with hb15 | hb15
            · rw [hb15] at f110
              replace h := cT hb15 h
              refine Stk.run 16 (fun t H n => t 0 = .ssl (encs c32 a0) a0.length false ∧ t 6 = .ssl (encs c4 x11) x11.length false ∧ t 7 = .ssl (encs c4 x12) x12.length false ∧ t 8 = .sc (.bool v22) ∧ t 49 = .ssl (encs c32 a0) a0.length false ∧ t 50 = .sc (.int .i64 (a0.length : Int)) ∧ t 51 = .sc (.int .i64 v16) ∧ t 126 = .sc (.bool true)) (fun J hJ => ?_) ?_
              · simp [-splice, f0, f6, f7, f8, f9, f10, f12, f49, f50, f51, f110, b_b21]
                exact hJ _ _ _ ⟨by simp [f0], by simp [f6], by simp [f7], by simp [f8], by simp [f49], by simp [f50], by simp [f51], by simp [-splice, f0, f6, f7, f8, f9, f10, f12, f49, f50, f51, f110, b_b21]⟩
              clear f0 f6 f7 f8 f9 f10 f12 f49 f50 f51 f110 b_b21 l_b21
              rintro t H n ⟨f0, f6, f7, f8, f49, f50, f51, f126⟩
              refine Stk.on ?_
              exact Stk.ln 0 (by decide) (hJ15 _ _ _ ⟨true, h, f0, f6, f7, f8, f49, f50, f51, f126⟩)
            · rw [hb15] at f110
              replace h := cF hb15 h
              refine Stk.run 2 (fun t H n => t 0 = .ssl (encs c32 a0) a0.length false ∧ t 6 = .ssl (encs c4 x11) x11.length false ∧ t 7 = .ssl (encs c4 x12) x12.length false ∧ t 8 = .sc (.bool v22) ∧ t 9 = .sc (.int .i64 v16) ∧ t 10 = .own b21 0 ∧ t 49 = .ssl (encs c32 a0) a0.length false ∧ t 50 = .sc (.int .i64 (a0.length : Int)) ∧ t 51 = .sc (.int .i64 v16) ∧ t 110 = .sc (.bool false) ∧ t 112 = .sc (.bool v24) ∧ H b21 = some (.cells (c32 x20) 32) ∧ b21 < n) (fun J hJ => ?_) ?_
              · simp [-splice, f0, f6, f7, f8, f9, f10, f12, f49, f50, f51, f110, b_b21]
                exact hJ _ _ _ ⟨by simp [f0], by simp [f6], by simp [f7], by simp [f8], by simp [f9], by simp [f10], by simp [f49], by simp [f50], by simp [f51], by simp [f110], by simp [-splice, f0, f6, f7, f8, f9, f10, f12, f49, f50, f51, f110, b_b21], b_b21, l_b21⟩
              clear f0 f6 f7 f8 f9 f10 f12 f49 f50 f51 f110 b_b21 l_b21
              rintro t H n ⟨f0, f6, f7, f8, f9, f10, f49, f50, f51, f110, f112, b_b21, l_b21⟩
              obtain ⟨K16, hK16, h⟩ := jnd h
              refine Stk.jo 5 (fun t H n => ∃ v52 : Bool, K16 v52 = some r ∧ t 0 = .ssl (encs c32 a0) a0.length false ∧ t 6 = .ssl (encs c4 x11) x11.length false ∧ t 7 = .ssl (encs c4 x12) x12.length false ∧ t 8 = .sc (.bool v22) ∧ t 9 = .sc (.int .i64 v16) ∧ t 10 = .own b21 0 ∧ t 49 = .ssl (encs c32 a0) a0.length false ∧ t 50 = .sc (.int .i64 (a0.length : Int)) ∧ t 51 = .sc (.int .i64 v16) ∧ t 110 = .sc (.bool false) ∧ t 117 = .sc (.bool v52) ∧ H b21 = some (.cells (c32 x20) 32) ∧ b21 < n) (fun J16 hJ16 => ?_) ?_
              · rcases Bool.eq_false_or_eq_true v24 with hb16 | hb16
                · rw [hb16] at f112
                  replace h := cT hb16 h
                  obtain ⟨x53, hx53, h⟩ := bnd h
                  obtain ⟨i0x53, i1x53, i2x53, _⟩ := idx_ok hx53
                  have ex53_0_4 : partOf T.T 4 (encs c4 x11) (v16.toNat) = some (.sc (.bool x53)) := by
                      have e0 := part_elem0 (e := c4) (z := 1) (T := T.T) (ty := 4) T.t4 (by decide) (by decide) hx53 0 (by decide)
                      (try simp only [Nat.mul_one, Nat.add_zero] at e0)
                      exact e0.trans rfl
                  refine Stk.run 5 (fun t H n => t 0 = .ssl (encs c32 a0) a0.length false ∧ t 6 = .ssl (encs c4 x11) x11.length false ∧ t 7 = .ssl (encs c4 x12) x12.length false ∧ t 8 = .sc (.bool v22) ∧ t 9 = .sc (.int .i64 v16) ∧ t 10 = .own b21 0 ∧ t 49 = .ssl (encs c32 a0) a0.length false ∧ t 50 = .sc (.int .i64 (a0.length : Int)) ∧ t 51 = .sc (.int .i64 v16) ∧ t 110 = .sc (.bool false) ∧ t 117 = .sc (.bool x53) ∧ H b21 = some (.cells (c32 x20) 32) ∧ b21 < n) (fun J hJ => ?_) ?_
                  · simp [-splice, f0, f6, f7, f8, f9, f10, f49, f50, f51, f110, f112, b_b21, i0x53, i1x53, pd4, ex53_0_4]
                    exact hJ _ _ _ ⟨by simp [f0], by simp [f6], by simp [f7], by simp [f8], by simp [f9], by simp [f10], by simp [f49], by simp [f50], by simp [f51], by simp [f110], by simp [-splice, f0, f6, f7, f8, f9, f10, f49, f50, f51, f110, f112, b_b21, i0x53, i1x53, pd4, ex53_0_4], b_b21, l_b21⟩
                  clear f0 f6 f7 f8 f9 f10 f49 f50 f51 f110 f112 b_b21 l_b21
                  rintro t H n ⟨f0, f6, f7, f8, f9, f10, f49, f50, f51, f110, f117, b_b21, l_b21⟩
                  refine Stk.on ?_
                  exact Stk.ln 0 (by decide) (hJ16 _ _ _ ⟨x53, h, f0, f6, f7, f8, f9, f10, f49, f50, f51, f110, f117, b_b21, l_b21⟩)
                · rw [hb16] at f112
                  replace h := cF hb16 h
                  refine Stk.run 5 (fun t H n => t 0 = .ssl (encs c32 a0) a0.length false ∧ t 6 = .ssl (encs c4 x11) x11.length false ∧ t 7 = .ssl (encs c4 x12) x12.length false ∧ t 8 = .sc (.bool v22) ∧ t 9 = .sc (.int .i64 v16) ∧ t 10 = .own b21 0 ∧ t 49 = .ssl (encs c32 a0) a0.length false ∧ t 50 = .sc (.int .i64 (a0.length : Int)) ∧ t 51 = .sc (.int .i64 v16) ∧ t 110 = .sc (.bool false) ∧ t 117 = .sc (.bool false) ∧ H b21 = some (.cells (c32 x20) 32) ∧ b21 < n) (fun J hJ => ?_) ?_
                  · simp [-splice, f0, f6, f7, f8, f9, f10, f49, f50, f51, f110, f112, b_b21]
                    exact hJ _ _ _ ⟨by simp [f0], by simp [f6], by simp [f7], by simp [f8], by simp [f9], by simp [f10], by simp [f49], by simp [f50], by simp [f51], by simp [f110], by simp [-splice, f0, f6, f7, f8, f9, f10, f49, f50, f51, f110, f112, b_b21], b_b21, l_b21⟩
                  clear f0 f6 f7 f8 f9 f10 f49 f50 f51 f110 f112 b_b21 l_b21
                  rintro t H n ⟨f0, f6, f7, f8, f9, f10, f49, f50, f51, f110, f117, b_b21, l_b21⟩
                  refine Stk.on ?_
                  exact Stk.ln 0 (by decide) (hJ16 _ _ _ ⟨false, h, f0, f6, f7, f8, f9, f10, f49, f50, f51, f110, f117, b_b21, l_b21⟩)
              clear h f0 f6 f7 f8 f9 f10 f49 f50 f51 f110 f112 b_b21 l_b21
              rintro t H n ⟨v52, h, f0, f6, f7, f8, f9, f10, f49, f50, f51, f110, f117, b_b21, l_b21⟩
              subst hK16
              refine Stk.run 1 (fun t H n => t 0 = .ssl (encs c32 a0) a0.length false ∧ t 6 = .ssl (encs c4 x11) x11.length false ∧ t 7 = .ssl (encs c4 x12) x12.length false ∧ t 8 = .sc (.bool v22) ∧ t 9 = .sc (.int .i64 v16) ∧ t 10 = .own b21 0 ∧ t 49 = .ssl (encs c32 a0) a0.length false ∧ t 50 = .sc (.int .i64 (a0.length : Int)) ∧ t 51 = .sc (.int .i64 v16) ∧ t 110 = .sc (.bool false) ∧ t 118 = .sc (.bool v52) ∧ H b21 = some (.cells (c32 x20) 32) ∧ b21 < n) (fun J hJ => ?_) ?_
              · simp [-splice, f0, f6, f7, f8, f9, f10, f49, f50, f51, f110, f117, b_b21]
                exact hJ _ _ _ ⟨by simp [f0], by simp [f6], by simp [f7], by simp [f8], by simp [f9], by simp [f10], by simp [f49], by simp [f50], by simp [f51], by simp [f110], by simp [-splice, f0, f6, f7, f8, f9, f10, f49, f50, f51, f110, f117, b_b21], b_b21, l_b21⟩
              clear f0 f6 f7 f8 f9 f10 f49 f50 f51 f110 f117 b_b21 l_b21
              rintro t H n ⟨f0, f6, f7, f8, f9, f10, f49, f50, f51, f110, f118, b_b21, l_b21⟩
              obtain ⟨K17, hK17, h⟩ := jnd h
              refine Stk.jo 7 (fun t H n => ∃ v54 : Bool, K17 v54 = some r ∧ t 0 = .ssl (encs c32 a0) a0.length false ∧ t 6 = .ssl (encs c4 x11) x11.length false ∧ t 7 = .ssl (encs c4 x12) x12.length false ∧ t 8 = .sc (.bool v22) ∧ t 49 = .ssl (encs c32 a0) a0.length false ∧ t 50 = .sc (.int .i64 (a0.length : Int)) ∧ t 51 = .sc (.int .i64 v16) ∧ t 110 = .sc (.bool false) ∧ t 125 = .sc (.bool v54)) (fun J17 hJ17 => ?_) ?_
              · rcases Bool.eq_false_or_eq_true v52 with hb17 | hb17
                · rw [hb17] at f118
                  replace h := cT hb17 h
                  refine Stk.run 3 (fun t H n => t 0 = .ssl (encs c32 a0) a0.length false ∧ t 6 = .ssl (encs c4 x11) x11.length false ∧ t 7 = .ssl (encs c4 x12) x12.length false ∧ t 8 = .sc (.bool v22) ∧ t 9 = .sc (.int .i64 v16) ∧ t 49 = .ssl (encs c32 a0) a0.length false ∧ t 50 = .sc (.int .i64 (a0.length : Int)) ∧ t 51 = .sc (.int .i64 v16) ∧ t 110 = .sc (.bool false) ∧ t 118 = .sc (.bool true) ∧ t 119 = .ssl (encs c32 a0) a0.length false ∧ t 121 = .sc (.string x20.Name)) (fun J hJ => ?_) ?_
                  · simp [-splice, f0, f6, f7, f8, f9, f10, f49, f50, f51, f110, f118, b_b21, ld_32_2_9]
                    exact hJ _ _ _ ⟨by simp [f0], by simp [f6], by simp [f7], by simp [f8], by simp [f9], by simp [f49], by simp [f50], by simp [f51], by simp [f110], by simp [f118], by simp [-splice, f0, f6, f7, f8, f9, f10, f49, f50, f51, f110, f118, b_b21, ld_32_2_9], by simp [-splice, f0, f6, f7, f8, f9, f10, f49, f50, f51, f110, f118, b_b21, ld_32_2_9]⟩
                  clear f0 f6 f7 f8 f9 f10 f49 f50 f51 f110 f118 b_b21 l_b21
                  rintro t H n ⟨f0, f6, f7, f8, f9, f49, f50, f51, f110, f118, f119, f121⟩
                  obtain ⟨x55, hx55, h⟩ := bnd h
                  refine Stk.cv (g := 12) (args := [.ssl (encs c32 a0) a0.length false, .sc (.string x20.Name)]) (args' := [.ssl (encs c32 a0) a0.length false, .sc (.string x20.Name)]) (v := .sc (.int .i64 x55)) [] (ok_R07_Find F _ _ _ hx55) (by simp [f0, f6, f7, f8, f9, f49, f50, f51, f110, f118, f119, f121]) rfl rfl (by simp [f0, f6, f7, f8, f9, f49, f50, f51, f110, f118, f119, f121]) (.cons (.free (freeL_encs fr32 _)) (.cons (.free (rfl)) (.nil))) (.inl ⟨rfl, rfl⟩) (fun t' ht' => ?_)
                  refine Stk.gen (fun t H n => t 0 = .ssl (encs c32 a0) a0.length false ∧ t 6 = .ssl (encs c4 x11) x11.length false ∧ t 7 = .ssl (encs c4 x12) x12.length false ∧ t 8 = .sc (.bool v22) ∧ t 9 = .sc (.int .i64 v16) ∧ t 49 = .ssl (encs c32 a0) a0.length false ∧ t 50 = .sc (.int .i64 (a0.length : Int)) ∧ t 51 = .sc (.int .i64 v16) ∧ t 110 = .sc (.bool false) ∧ t 118 = .sc (.bool true) ∧ t 122 = .sc (.int .i64 x55)) ⟨by simp [ht', f0], by simp [ht', f6], by simp [ht', f7], by simp [ht', f8], by simp [ht', f9], by simp [ht', f49], by simp [ht', f50], by simp [ht', f51], by simp [ht', f110], by simp [ht', f118], by simp [ht']⟩ ?_
                  clear f0 f6 f7 f8 f9 f49 f50 f51 f110 f118 f119 f121 ht' t'
                  rintro t H n ⟨f0, f6, f7, f8, f9, f49, f50, f51, f110, f118, f122⟩
                  refine Stk.run 3 (fun t H n => t 0 = .ssl (encs c32 a0) a0.length false ∧ t 6 = .ssl (encs c4 x11) x11.length false ∧ t 7 = .ssl (encs c4 x12) x12.length false ∧ t 8 = .sc (.bool v22) ∧ t 49 = .ssl (encs c32 a0) a0.length false ∧ t 50 = .sc (.int .i64 (a0.length : Int)) ∧ t 51 = .sc (.int .i64 v16) ∧ t 110 = .sc (.bool false) ∧ t 125 = .sc (.bool (x55 == v16))) (fun J hJ => ?_) ?_
                  · simp [-splice, f0, f6, f7, f8, f9, f49, f50, f51, f110, f118, f122]
                    exact hJ _ _ _ ⟨by simp [f0], by simp [f6], by simp [f7], by simp [f8], by simp [f49], by simp [f50], by simp [f51], by simp [f110], by simp [-splice, f0, f6, f7, f8, f9, f49, f50, f51, f110, f118, f122]⟩
                  clear f0 f6 f7 f8 f9 f49 f50 f51 f110 f118 f122
                  rintro t H n ⟨f0, f6, f7, f8, f49, f50, f51, f110, f125⟩
                  refine Stk.on ?_
                  exact Stk.ln 0 (by decide) (hJ17 _ _ _ ⟨(x55 == v16), h, f0, f6, f7, f8, f49, f50, f51, f110, f125⟩)
                · rw [hb17] at f118
                  replace h := cF hb17 h
                  refine Stk.run 7 (fun t H n => t 0 = .ssl (encs c32 a0) a0.length false ∧ t 6 = .ssl (encs c4 x11) x11.length false ∧ t 7 = .ssl (encs c4 x12) x12.length false ∧ t 8 = .sc (.bool v22) ∧ t 49 = .ssl (encs c32 a0) a0.length false ∧ t 50 = .sc (.int .i64 (a0.length : Int)) ∧ t 51 = .sc (.int .i64 v16) ∧ t 110 = .sc (.bool false) ∧ t 125 = .sc (.bool false)) (fun J hJ => ?_) ?_
                  · simp [-splice, f0, f6, f7, f8, f9, f10, f49, f50, f51, f110, f118, b_b21]
                    exact hJ _ _ _ ⟨by simp [f0], by simp [f6], by simp [f7], by simp [f8], by simp [f49], by simp [f50], by simp [f51], by simp [f110], by simp [-splice, f0, f6, f7, f8, f9, f10, f49, f50, f51, f110, f118, b_b21]⟩
                  clear f0 f6 f7 f8 f9 f10 f49 f50 f51 f110 f118 b_b21 l_b21
                  rintro t H n ⟨f0, f6, f7, f8, f49, f50, f51, f110, f125⟩
                  refine Stk.on ?_
                  exact Stk.ln 0 (by decide) (hJ17 _ _ _ ⟨false, h, f0, f6, f7, f8, f49, f50, f51, f110, f125⟩)
              clear h f0 f6 f7 f8 f9 f10 f49 f50 f51 f110 f118 b_b21 l_b21
              rintro t H n ⟨v54, h, f0, f6, f7, f8, f49, f50, f51, f110, f125⟩
              subst hK17
              refine Stk.run 1 (fun t H n => t 0 = .ssl (encs c32 a0) a0.length false ∧ t 6 = .ssl (encs c4 x11) x11.length false ∧ t 7 = .ssl (encs c4 x12) x12.length false ∧ t 8 = .sc (.bool v22) ∧ t 49 = .ssl (encs c32 a0) a0.length false ∧ t 50 = .sc (.int .i64 (a0.length : Int)) ∧ t 51 = .sc (.int .i64 v16) ∧ t 126 = .sc (.bool v54)) (fun J hJ => ?_) ?_
              · simp [-splice, f0, f6, f7, f8, f49, f50, f51, f110, f125]
                exact hJ _ _ _ ⟨by simp [f0], by simp [f6], by simp [f7], by simp [f8], by simp [f49], by simp [f50], by simp [f51], by simp [-splice, f0, f6, f7, f8, f49, f50, f51, f110, f125]⟩
              clear f0 f6 f7 f8 f49 f50 f51 f110 f125
              rintro t H n ⟨f0, f6, f7, f8, f49, f50, f51, f126⟩
              refine Stk.on ?_
              exact Stk.ln 0 (by decide) (hJ15 _ _ _ ⟨v54, h, f0, f6, f7, f8, f49, f50, f51, f126⟩)
          clear h f0 f6 f7 f8 f9 f10 f12 f49 f50 f51 f110 b_b21 l_b21
          rintro t H n ⟨v51, h, f0, f6, f7, f8, f49, f50, f51, f126⟩
          subst hK15
          refine Stk.on ?_
          refine Stk.cond v51 (by exact f126) (fun hb56 => ?_) (fun hb56 => ?_)
          · have h := cT hb56 h
            refine Stk.sq ?_
            refine Stk.rg ?_
            refine Stk.run 1 (fun t H n => t 4 = .sc (.bool false)) (fun J hJ => ?_) ?_
            · simp [-splice, f0, f6, f7, f8, f49, f50, f51, f126]
              exact hJ _ _ _ (by simp [-splice, f0, f6, f7, f8, f49, f50, f51, f126])
            clear f0 f6 f7 f8 f49 f50 f51 f126
            rintro t H n f4
            refine Stk.on ?_
            refine Stk.rt ?_
            have hq := Option.some.inj h; subst hq
            exact (hr _ _ _ (.sc (.bool false)) ([]) (by simp [f4]) (.inr (.inr (.free (rfl))))).1
          · have h := cF hb56 h
            refine Stk.sk ?_
            refine Stk.bn ?_
            refine Stk.rg ?_
            refine Stk.run 2 (fun t H n => t 0 = .ssl (encs c32 a0) a0.length false ∧ t 6 = .ssl (encs c4 x11) x11.length false ∧ t 7 = .ssl (encs c4 x12) x12.length false ∧ t 8 = .sc (.bool v22) ∧ t 49 = .ssl (encs c32 a0) a0.length false ∧ t 50 = .sc (.int .i64 (a0.length : Int)) ∧ t 51 = .sc (.int .i64 (IntKind.i64.wrap (v16 + 1)))) (fun J hJ => ?_) ?_
            · simp [-splice, f0, f6, f7, f8, f49, f50, f51, f126]
              exact hJ _ _ _ ⟨by simp [f0], by simp [f6], by simp [f7], by simp [f8], by simp [f49], by simp [f50], by simp [-splice, f0, f6, f7, f8, f49, f50, f51, f126]⟩
            clear f0 f6 f7 f8 f49 f50 f51 f126
            rintro t H n ⟨f0, f6, f7, f8, f49, f50, f51⟩
            refine Stk.on ?_
            exact Stk.ln μ (Nat.lt_succ_self _) (hJ4 _ _ _ _ ⟨v22, (IntKind.i64.wrap (v16 + 1)), h, f0, f6, f7, f8, f49, f50, f51⟩)
        · have h := cF hb19 h
          refine Stk.ex rfl ?_
          exact Stk.ln 0 (by decide) (hJ3 _ _ _ ⟨v15, h, f0, f6, f7, f8⟩)
      clear h f0 f6 f7 f8 f49 f50 f51
      rintro t H n ⟨v14, h, f0, f6, f7, f8⟩
      subst hK3
      refine Stk.sq ?_
      refine Stk.sq ?_
      refine Stk.rg ?_
      refine Stk.run 3 (fun t H n => t 6 = .ssl (encs c4 x11) x11.length false ∧ t 7 = .ssl (encs c4 x12) x12.length false ∧ t 8 = .sc (.bool v14) ∧ t 129 = .sc (.int .i64 (a0.length : Int)) ∧ t 130 = .sc (.int .i64 0)) (fun J hJ => ?_) ?_
      · simp [-splice, f0, f6, f7, f8]
        exact hJ _ _ _ ⟨by simp [f6], by simp [f7], by simp [f8], by simp [-splice, f0, f6, f7, f8], by simp [-splice, f0, f6, f7, f8]⟩
      clear f0 f6 f7 f8
      rintro t H n ⟨f6, f7, f8, f129, f130⟩
      refine Stk.on ?_
      refine Stk.bk ?_
      refine Stk.lo (fun μ t H n => ∃ v57 : Int, L07_TyMore_L3 F a0 x11 x12 v14 μ v57 = some r ∧ t 6 = .ssl (encs c4 x11) x11.length false ∧ t 7 = .ssl (encs c4 x12) x12.length false ∧ t 8 = .sc (.bool v14) ∧ t 129 = .sc (.int .i64 (a0.length : Int)) ∧ t 130 = .sc (.int .i64 v57)) F ⟨0, h, f6, f7, f8, f129, f130⟩ ?_
      clear h f6 f7 f8 f129 f130
      rintro J18 hJ18 μ t H n ⟨v57, h, f6, f7, f8, f129, f130⟩
      cases μ with
      | zero => exact absurd h (by simp [L07_TyMore_L3])
      | succ μ =>
      rw [L07_TyMore_L3] at h
      refine Stk.sq ?_
      refine Stk.rg ?_
      refine Stk.run 1 (fun t H n => t 6 = .ssl (encs c4 x11) x11.length false ∧ t 7 = .ssl (encs c4 x12) x12.length false ∧ t 8 = .sc (.bool v14) ∧ t 129 = .sc (.int .i64 (a0.length : Int)) ∧ t 130 = .sc (.int .i64 v57) ∧ t 131 = .sc (.bool (decide (v57 < (a0.length : Int))))) (fun J hJ => ?_) ?_
      · simp [-splice, f6, f7, f8, f129, f130]
        exact hJ _ _ _ ⟨by simp [f6], by simp [f7], by simp [f8], by simp [f129], by simp [f130], by simp [-splice, f6, f7, f8, f129, f130]⟩
      clear f6 f7 f8 f129 f130
      rintro t H n ⟨f6, f7, f8, f129, f130, f131⟩
      refine Stk.on ?_
      refine Stk.sq ?_
      refine Stk.cond (decide (v57 < (a0.length : Int))) (by exact f131) (fun hb59 => ?_) (fun hb59 => ?_)
      · have h := cT hb59 h
        refine Stk.sk ?_
        refine Stk.sq ?_
        refine Stk.bk ?_
        refine Stk.sq ?_
        refine Stk.rg ?_
        refine Stk.run 2 (fun t H n => t 6 = .ssl (encs c4 x11) x11.length false ∧ t 7 = .ssl (encs c4 x12) x12.length false ∧ t 8 = .sc (.bool v14) ∧ t 18 = .sc (.int .i64 v57) ∧ t 129 = .sc (.int .i64 (a0.length : Int)) ∧ t 130 = .sc (.int .i64 v57)) (fun J hJ => ?_) ?_
        · simp [-splice, f6, f7, f8, f129, f130, f131]
          exact hJ _ _ _ ⟨by simp [f6], by simp [f7], by simp [f8], by simp [-splice, f6, f7, f8, f129, f130, f131], by simp [f129], by simp [f130]⟩
        clear f6 f7 f8 f129 f130 f131
        rintro t H n ⟨f6, f7, f8, f18, f129, f130⟩
        refine Stk.on ?_
        refine Stk.sq ?_
        obtain ⟨n0, hn0⟩ : ∃ m, m = n := ⟨n, rfl⟩
        have ln0 : n0 ≤ n := Nat.le_of_eq hn0
        refine Stk.rgD [.rd [], .rd [], .rd [], .rd [], .rd [], .rd [], .rd [], .rd [], .rd [], .rd [], .rd [], .rd []] none (by kernel_rfl) (by rfl) rfl (by simp [below]) rfl ?_
        refine Stk.runD 2 (fun t H n => t 6 = .ssl (encs c4 x11) x11.length false ∧ t 7 = .ssl (encs c4 x12) x12.length false ∧ t 8 = .sc (.bool v14) ∧ t 18 = .sc (.int .i64 v57) ∧ t 129 = .sc (.int .i64 (a0.length : Int)) ∧ t 130 = .sc (.int .i64 v57) ∧ t 134 = .sc (.bool v14) ∧ n0 ≤ n) (fun J hJ => ?_) ?_
        · simp [-splice, f6, f7, f8, f18, f129, f130]
          exact hJ _ _ _ ⟨by simp [f6], by simp [f7], by simp [f8], by simp [f18], by simp [f129], by simp [f130], by simp [-splice, f6, f7, f8, f18, f129, f130], ln0⟩
        clear f6 f7 f8 f18 f129 f130 ln0
        rintro t H n ⟨f6, f7, f8, f18, f129, f130, f134, ln0⟩
        obtain ⟨K19, hK19, h⟩ := jnd h
        refine Stk.jd 10 (fun t H n => ∃ v60 : Bool, K19 v60 = some r ∧ t 6 = .ssl (encs c4 x11) x11.length false ∧ t 7 = .ssl (encs c4 x12) x12.length false ∧ t 8 = .sc (.bool v14) ∧ t 129 = .sc (.int .i64 (a0.length : Int)) ∧ t 130 = .sc (.int .i64 v57) ∧ t 144 = .sc (.bool v60)) (fun J19 hJ19 => ?_) ?_
        · rcases Bool.eq_false_or_eq_true v14 with hb19 | hb19
          · rw [hb19] at f134
            replace h := cT hb19 h
            obtain ⟨x61, hx61, h⟩ := bnd h
            obtain ⟨i0x61, i1x61, i2x61, _⟩ := idx_ok hx61
            have ex61_0_4 : partOf T.T 4 (encs c4 x11) (v57.toNat) = some (.sc (.bool x61)) := by
                have e0 := part_elem0 (e := c4) (z := 1) (T := T.T) (ty := 4) T.t4 (by decide) (by decide) hx61 0 (by decide)
                (try simp only [Nat.mul_one, Nat.add_zero] at e0)
                exact e0.trans rfl
            obtain ⟨x62, hx62, h⟩ := bnd h
            obtain ⟨i0x62, i1x62, i2x62, _⟩ := idx_ok hx62
            have ex62_0_4 : partOf T.T 4 (encs c4 x12) (v57.toNat) = some (.sc (.bool x62)) := by
                have e0 := part_elem0 (e := c4) (z := 1) (T := T.T) (ty := 4) T.t4 (by decide) (by decide) hx62 0 (by decide)
                (try simp only [Nat.mul_one, Nat.add_zero] at e0)
                exact e0.trans rfl
            refine Stk.runD 10 (fun t H n => t 6 = .ssl (encs c4 x11) x11.length false ∧ t 7 = .ssl (encs c4 x12) x12.length false ∧ t 8 = .sc (.bool v14) ∧ t 129 = .sc (.int .i64 (a0.length : Int)) ∧ t 130 = .sc (.int .i64 v57) ∧ t 144 = .sc (.bool (!(x61 == x62))) ∧ n0 ≤ n) (fun J hJ => ?_) ?_
            · simp [-splice, f6, f7, f8, f18, f129, f130, f134, i0x61, i1x61, pd4, ex61_0_4, i0x62, i1x62, ex62_0_4, eqM4]
              exact hJ _ _ _ ⟨by simp [f6], by simp [f7], by simp [f8], by simp [f129], by simp [f130], by simp [-splice, f6, f7, f8, f18, f129, f130, f134, i0x61, i1x61, pd4, ex61_0_4, i0x62, i1x62, ex62_0_4, eqM4], ln0⟩
            clear f6 f7 f8 f18 f129 f130 f134 ln0
            rintro t H n ⟨f6, f7, f8, f129, f130, f144, ln0⟩
            refine Stk.onD ?_
            exact Stk.ln 0 (by decide) (hJ19 _ _ _ ⟨(!(x61 == x62)), h, f6, f7, f8, f129, f130, f144⟩)
          · rw [hb19] at f134
            replace h := cF hb19 h
            refine Stk.runD 10 (fun t H n => t 6 = .ssl (encs c4 x11) x11.length false ∧ t 7 = .ssl (encs c4 x12) x12.length false ∧ t 8 = .sc (.bool v14) ∧ t 129 = .sc (.int .i64 (a0.length : Int)) ∧ t 130 = .sc (.int .i64 v57) ∧ t 144 = .sc (.bool false) ∧ n0 ≤ n) (fun J hJ => ?_) ?_
            · simp [-splice, f6, f7, f8, f18, f129, f130, f134]
              exact hJ _ _ _ ⟨by simp [f6], by simp [f7], by simp [f8], by simp [f129], by simp [f130], by simp [-splice, f6, f7, f8, f18, f129, f130, f134], ln0⟩
            clear f6 f7 f8 f18 f129 f130 f134 ln0
            rintro t H n ⟨f6, f7, f8, f129, f130, f144, ln0⟩
            refine Stk.onD ?_
            exact Stk.ln 0 (by decide) (hJ19 _ _ _ ⟨false, h, f6, f7, f8, f129, f130, f144⟩)
        clear h f6 f7 f8 f18 f129 f130 f134 ln0
        rintro t H n ⟨v60, h, f6, f7, f8, f129, f130, f144⟩
        subst hK19
        refine Stk.onD ?_
        refine Stk.cond v60 (by exact f144) (fun hb63 => ?_) (fun hb63 => ?_)
        · have h := cT hb63 h
          refine Stk.sq ?_
          refine Stk.rg ?_
          refine Stk.run 1 (fun t H n => t 4 = .sc (.bool false)) (fun J hJ => ?_) ?_
          · simp [-splice, f6, f7, f8, f129, f130, f144]
            exact hJ _ _ _ (by simp [-splice, f6, f7, f8, f129, f130, f144])
          clear f6 f7 f8 f129 f130 f144
          rintro t H n f4
          refine Stk.on ?_
          refine Stk.rt ?_
          have hq := Option.some.inj h; subst hq
          exact (hr _ _ _ (.sc (.bool false)) ([]) (by simp [f4]) (.inr (.inr (.free (rfl))))).1
        · have h := cF hb63 h
          refine Stk.sk ?_
          refine Stk.bn ?_
          refine Stk.rg ?_
          refine Stk.run 2 (fun t H n => t 6 = .ssl (encs c4 x11) x11.length false ∧ t 7 = .ssl (encs c4 x12) x12.length false ∧ t 8 = .sc (.bool v14) ∧ t 129 = .sc (.int .i64 (a0.length : Int)) ∧ t 130 = .sc (.int .i64 (IntKind.i64.wrap (v57 + 1)))) (fun J hJ => ?_) ?_
          · simp [-splice, f6, f7, f8, f129, f130, f144]
            exact hJ _ _ _ ⟨by simp [f6], by simp [f7], by simp [f8], by simp [f129], by simp [-splice, f6, f7, f8, f129, f130, f144]⟩
          clear f6 f7 f8 f129 f130 f144
          rintro t H n ⟨f6, f7, f8, f129, f130⟩
          refine Stk.on ?_
          exact Stk.ln μ (Nat.lt_succ_self _) (hJ18 _ _ _ _ ⟨(IntKind.i64.wrap (v57 + 1)), h, f6, f7, f8, f129, f130⟩)
      · have h := cF hb59 h
        refine Stk.ex rfl ?_
        refine Stk.sq ?_
        refine Stk.rg ?_
        obtain ⟨x64, hx64, h⟩ := bnd h
        refine Stk.cv (g := 7) (args := []) (args' := []) (v := .sc (.bool x64)) [] (ok_L07_awake F  _ hx64) (by simp [f6, f7, f8, f129, f130, f131]) rfl rfl (by simp [f6, f7, f8, f129, f130, f131]) (.nil) (.inl ⟨rfl, rfl⟩) (fun t' ht' => ?_)
        refine Stk.gen (fun t H n => t 146 = .sc (.bool x64)) (by simp [ht']) ?_
        clear f6 f7 f8 f129 f130 f131 ht' t'
        rintro t H n f146
        refine Stk.run 1 (fun t H n => t 4 = .sc (.bool x64)) (fun J hJ => ?_) ?_
        · simp [-splice, f146]
          exact hJ _ _ _ (by simp [-splice, f146])
        clear f146
        rintro t H n f4
        refine Stk.on ?_
        refine Stk.rt ?_
        have hq := Option.some.inj h; subst hq
        exact (hr _ _ _ (.sc (.bool x64)) ([]) (by simp [f4]) (.inr (.inr (.free (rfl))))).1
end Go.Proofs.Ytappiofmkoelnaa.M
