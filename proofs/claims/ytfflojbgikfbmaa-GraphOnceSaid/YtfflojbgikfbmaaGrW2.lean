/-
  The functions come to them.
-/
import Derived.Test.YtfflojbgikfbmaaGrM
import Derived.Test.YtfflojbgikfbmaaGrW1
namespace Go.Proofs.Ytfflojbgikfbmaa.M
open Go.Proofs.YtfflojbgikfbmaaW.Ah Go.Proofs.Ytfflojbgikfbmaa
set_option linter.unusedVariables false
set_option linter.unusedSimpArgs false
set_option maxRecDepth 8000
attribute [local simp] T.t2 T.t3 T.t4 T.t5 T.t35 T.t215 List.range List.range.loop
attribute [-simp] appendAV fillAV
theorem ok_word_Wrap (F : Nat) (a0 : Int) (r : Int) (h : word_Wrap F a0 = some r) : RunF Try.prog T.T 135 [.sc (.int .i64 a0)] (.sc (.int .i64 r)) := by
  rw [word_Wrap] at h
  refine RunF.z Try.func135 rfl rfl rfl rfl rfl (fun C hr => ?_)
  refine Stk.gen (fun t H n => t 0 = .sc (.int .i64 a0)) (by simp) ?_
  rintro t H n f0
  refine Stk.sq ?_
  refine Stk.rg ?_
  refine Stk.run 1 (fun t H n => t 0 = .sc (.int .i64 a0)) (fun J hJ => ?_) ?_
  · simp [-splice, f0]
    exact hJ _ _ _ (by simp [f0])
  clear f0
  rintro t H n f0
  refine Stk.on ?_
  refine Stk.sq ?_
  refine Stk.rg ?_
  refine Stk.run 1 (fun t H n => t 3 = .sc (.int .i64 a0)) (fun J hJ => ?_) ?_
  · simp [-splice, f0]
    exact hJ _ _ _ (by simp [-splice, f0])
  clear f0
  rintro t H n f3
  obtain ⟨x1, hx1, h⟩ := bnd h
  refine Stk.cv (g := 150) (args := [.sc (.int .i64 a0)]) (args' := [.sc (.int .i64 a0)]) (v := .sc (.int .i64 x1)) [] (ok_word_wrapped F _ _ hx1) (by simp [f3]) rfl rfl (by simp [f3]) (.cons (.free (rfl)) (.nil)) (.inl ⟨rfl, rfl⟩) (fun t' ht' => ?_)
  refine Stk.gen (fun t H n => t 4 = .sc (.int .i64 x1)) (by simp [ht']) ?_
  clear f3 ht' t'
  rintro t H n f4
  refine Stk.run 1 (fun t H n => t 2 = .sc (.int .i64 x1)) (fun J hJ => ?_) ?_
  · simp [-splice, f4]
    exact hJ _ _ _ (by simp [-splice, f4])
  clear f4
  rintro t H n f2
  refine Stk.on ?_
  refine Stk.rt ?_
  have hq := Option.some.inj h; subst hq
  exact (hr _ _ _ (.sc (.int .i64 x1)) ([]) (by simp [f2]) (.inr (.inr (.free (rfl))))).1
theorem ok_slices_Clone_byte_byte (F : Nat) (a0 : (List Int)) (r : (List Int)) (h : slices_Clone_byte_byte F a0 = some r) : RunF Try.prog T.T 79 [.ssl (encs c5 a0) a0.length false] (.ssl (encs c5 r) r.length false) := by
  rw [slices_Clone_byte_byte] at h
  obtain ⟨r1, r2, r3⟩ := appM_ok h
  simp only [List.nil_append] at r3
  subst r3
  cases a0 with
  | nil =>
    refine RunF.nilArg [] [] (fun a ha => ?_)
    rcases ha with rfl | rfl
    · refine RunF.z Try.func79 rfl rfl rfl rfl rfl (fun C hr => ?_)
      refine evZ_sound (f := 19) ?_
      simp [Op.maxDepth]
      refine Stk.cond true ?_ (fun _ => ?_) (fun hb => by cases hb)
      · simp
      refine evZ_sound (f := 19) ?_
      simp
      exact (hr _ _ _ (.sc (.slice none 0 0)) [] (by simp) (.inr (.inr .nilS))).1
    · refine RunF.z Try.func79 rfl rfl rfl rfl rfl (fun C hr => ?_)
      refine evZ_sound (f := 19) ?_
      simp [Op.maxDepth]
      refine Stk.cond false ?_ (fun hb => by cases hb) (fun _ => ?_)
      · simp
      refine evZ_sound (f := 19) ?_
      simp [appendAV, fillAV, roomMax]
      exact (hr _ _ _ (.osl 0 0 0 (some 0)) [0] (by simp) (.inr (.inr (.oslF (cs := []) (ty := 5) 0 (by simp) (by simp) .nil)))).1
  | cons x xs =>
    refine RunF.z Try.func79 rfl rfl rfl rfl rfl (fun C hr => ?_)
    refine evZ_sound (f := 19) ?_
    simp [Op.maxDepth]
    refine Stk.cond false ?_ (fun hb => by cases hb) (fun _ => ?_)
    · simp
    obtain ⟨o', c', H9, n9, e9, w9, le9, fr9, kp9⟩ := append_ownC (e := c5) (z := 1) (st := 35) T.t35 rfl T.t5 rfl (by decide) rfl (by decide) (H := upd (fun _ => none) 0 (some (.cells (encs c5 ([] : (List Int))) 5))) (n := 1) (ownC_row (xs := ([] : (List Int))) (b := 0) (upd_same _ _ _)) (fun i hi => by cases hi; omega) (y := .ssl (encs c5 (x :: xs)) (x :: xs).length false) (x :: xs) elems_ssl (all_encs ok5 _) r1 r2
    simp only [List.nil_append] at e9 w9
    refine Stk.sk ?_
    refine Stk.sq ?_
    refine Stk.rg ?_
    refine Stk.om (mop_buildN (c := c5) (z := 1) T.t35 rfl T.t5 rfl (by decide) rfl (by decide) [] rfl .nil) rfl rfl (fun t' ht' => ?_)
    refine Stk.run 1 (fun t H n => t 5 = .osl 0 0 0 (some 0) ∧ t 6 = .ssl (encs c5 (x :: xs)) (x :: xs).length false ∧ H = upd (fun _ => none) 0 (some (.cells (encs c5 ([] : (List Int))) 5)) ∧ n = 1) (fun J hJ => ?_) ?_
    · simp [ht']
      exact hJ _ _ _ ⟨by simp [ht'], by simp [ht'], rfl, rfl⟩
    clear ht' t'
    rintro t H n ⟨f5, f6, rfl, rfl⟩
    refine Stk.om ((mop_append T.t35 rfl).trans (by rw [show ev t (.tmp 5) = t 5 from rfl, f5]; rw [show ev t (.tmp 6) = t 6 from rfl, f6]; exact e9)) rfl rfl (fun t' ht' => ?_)
    refine Stk.run 1 (fun t H n => t 2 = slc o' (x :: xs).length c' ∧ OwnC H 5 1 c5 o' c' (x :: xs)) (fun J hJ => ?_) ?_
    · simp [ht']
      exact hJ _ _ _ ⟨by simp [ht'], w9⟩
    rintro t H n ⟨f2, b2⟩
    refine Stk.on ?_
    refine Stk.rt ?_
    exact (hr _ _ _ (slc o' (x :: xs).length c') o'.toList (by simp [f2]) (.inr (.inr (view_ownC fr5 b2 (fun i hi => by simp [hi]))))).1
theorem ok_L17_awake (F : Nat) (r : Bool) (h : L17_awake F = some r) : RunF Try.prog T.T 15 [] (.sc (.bool r)) := by
  cases h
  exact RunF.x 4000 (by decide +kernel)
end Go.Proofs.Ytfflojbgikfbmaa.M
