/-
  The statements' own small check of a stack.
-/
import Derived.Test.YtfflojbgikfbmaaStkE
namespace Go.Proofs.Ytfflojbgikfbmaa.Sta
open Go.Proofs.YtfflojbgikfbmaaW.Ah
set_option maxRecDepth 4000
set_option linter.unusedVariables false
set_option linter.unusedSimpArgs false
attribute [local simp] T.t3 T.t4 T.t26 T.t39 T.t40 T.t41 T.t47 T.t49 T.t128 T.t130 T.t132 T.t135 T.t79 Op.maxDepth List.range List.range.loop
attribute [-simp] appendAV cellsOf cellOk partOk
attribute [local simp] cellsOf_sc cellOk_sc partOk_sc cellsOf_own cellOk_own partOk_own cellsOf_osl cellOk_osl partOk_osl cellsOf_sh cellOk_sh partOk_sh cellsOf_ssl cellOk_ssl partOk_ssl cellsOf_esl cellOk_esl partOk_esl cellsOf_fn cellOk_fn partOk_fn cellsOf_omap cellOk_omap partOk_omap cellsOf_agg partOk_agg cellsOf_slv cellOk_slv partOk_slv

theorem awake : RunF Try.prog T.T 19 [] (B true) := by
  refine RunF.ev 999 Try.func19 rfl rfl rfl rfl rfl fun C hr hn => ?_
  simp
  refine Stk.callS 999 (new _ _ 9 (by decide) (by decide)) rfl rfl rfl (by simp) ?_
  rintro v H1 n1 ⟨p, rfl, _, _, _, st⟩
  simp
  refine Stk.callS 999 (push st 5) rfl rfl rfl (by simp) ?_
  rintro v H2 n2 hz
  rw [if_pos (by decide)] at hz
  obtain ⟨rfl, ia, ib, st⟩ := hz
  replace st := st.st
  simp at st
  simp
  refine Stk.callS 999 (push st 7) rfl rfl rfl (by simp) ?_
  rintro v H2 n2 hz
  rw [if_pos (by decide)] at hz
  obtain ⟨rfl, ia, ib, st⟩ := hz
  replace st := st.st
  simp at st
  simp
  refine Stk.callS 999 (enter st 3 1) rfl rfl rfl (by simp) ?_
  rintro v H2 n2 hz
  rw [if_pos (by simp [Sk.base])] at hz
  obtain ⟨rfl, ia, ib, st⟩ := hz
  replace st := st.st
  simp at st
  simp
  refine Stk.callS 999 (get st 0) rfl rfl rfl (by simp) ?_
  rintro v H2 n2 ⟨rfl, rfl, rfl⟩
  simp [Sk.base]
  refine Stk.callS 999 (push st 9) rfl rfl rfl (by simp) ?_
  rintro v H2 n2 hz
  rw [if_pos (by decide)] at hz
  obtain ⟨rfl, ia, ib, st⟩ := hz
  replace st := st.st
  simp at st
  simp
  refine Stk.callS 999 (leave st) rfl rfl rfl (by simp) ?_
  rintro v H2 n2 hz
  rw [if_pos (by simp [Sk.base])] at hz
  obtain ⟨rfl, ia, ib, st⟩ := hz
  replace st := st.st
  simp [Sk.base] at st
  simp
  refine Stk.callS 999 (roots st) rfl rfl rfl (by simp) ?_
  rintro v H2 n2 ⟨o', c, rfl, q1, q2, q3, q4⟩
  cases o' with
  | none => simp [Own] at q1
  | some i =>
    obtain ⟨ys, q1⟩ := q1
    simp [slc, q1, encs, partOf]
    exact hr _ _ _ (by simp)
end Go.Proofs.Ytfflojbgikfbmaa.Sta
