/-
  The statement StackSlots.
-/
import Derived.Test.YtfflojbgikfbmaaStkF
import Derived.Test.YtfflojbgikfbmaaAhC
import Derived.Test.YtfflojbgikfbmaaStkI
namespace Go.Proofs.Ytfflojbgikfbmaa.Sta
open Go.Proofs.YtfflojbgikfbmaaW.Ah
set_option maxRecDepth 4000
set_option linter.unusedVariables false
attribute [local simp] T.t3 T.t4 T.t5 T.t26 T.t39 T.t40 T.t41 T.t47 T.t49 T.t128 T.t130 T.t132 T.t135 T.t79 Op.maxDepth List.range List.range.loop
attribute [-simp] appendAV cellsOf cellOk partOk
attribute [local simp] cellsOf_sc cellOk_sc partOk_sc cellsOf_own cellOk_own partOk_own cellsOf_osl cellOk_osl partOk_osl cellsOf_sh cellOk_sh partOk_sh cellsOf_ssl cellOk_ssl partOk_ssl cellsOf_esl cellOk_esl partOk_esl cellsOf_fn cellOk_fn partOk_fn cellsOf_omap cellOk_omap partOk_omap cellsOf_agg partOk_agg cellsOf_slv cellOk_slv partOk_slv

theorem slots (xs : List Int) (u1 u2 x : Int) (h1 : 0 ≤ u1 ∧ u1 < 256) (h2 : 0 ≤ u2 ∧ u2 < 256) :
    RunF Try.prog T.T 5 [.ssl (encs eU xs) xs.length false, .sc (.int .u8 u1), .sc (.int .u8 u2), U x] (B true) := by
  refine RunF.parts (c := body5) Try.func5 (by rfl) rfl rfl rfl rfl fun C hr hn => ?_
  refine Stk.cut (l' := (seqs body5).drop 8) [_, _, _, _, _, _, _, _] rfl fun J0 hJ0 => ?_
  refine evS_sound (f := 999) ?_
  simp [codes]
  by_cases h0 : xs.length = 0
  · have : xs = [] := List.length_eq_zero_iff.1 h0
    subst this
    simp
    refine Stk.callF 999 awake rfl rfl rfl (by simp) rfl rfl ?_
    simp
    exact hr _ _ _ (by simp)
  have h0' : ¬ xs = [] := fun e => h0 (by rw [e]; rfl)
  have hb0 : ((xs.length : Int) == 0) = false := by simp [h0']
  by_cases hb : xs.length > 200
  · have hb' : (200 : Int) < xs.length := by omega
    simp [hb0, hb']
    refine Stk.callF 999 awake rfl rfl rfl (by simp) rfl rfl ?_
    simp
    exact hr _ _ _ (by simp)
  have hb' : ¬ (200 : Int) < xs.length := by omega
  simp [hb0, hb']
  refine Stk.callS 999 (new _ _ xs.length (by omega) (by omega)) rfl rfl rfl (by simp) ?_
  rintro v H1 n1 ⟨p, rfl, _, _, _, st⟩
  simp at st
  simp
  refine Stk.loop 999 (fun μ t H n => ∃ m ia ib, m ≤ xs.length ∧ μ = xs.length - m ∧ t 0 = .ssl (encs eU xs) xs.length false ∧ t 1 = .sc (.int .u8 u1) ∧ t 2 = .sc (.int .u8 u2) ∧ t 3 = U x ∧ t 9 = .own p 0 ∧ t 39 = .ssl (encs eU xs) xs.length false ∧ t 40 = I xs.length ∧ t 41 = I m ∧ St H n p ⟨xs.take m, [], xs.length, m⟩ ia ib) xs.length ?_ ?_
  · exact ⟨0, none, none, Nat.zero_le _, rfl, by simp, by simp, by simp, by simp, by simp, by simp, by simp, by simp, by simpa using st⟩
  clear st
  rintro J hJ μ t H n ⟨m, ia, ib, hm, rfl, t0, t1, t2, t3, t9, t39, t40, t41, st⟩
  simp [t0, t1, t2, t3, t9, t39, t40, t41]
  refine ⟨fun hlt => ?_, fun hge => ?_⟩
  · have hld := load_u xs m hlt
    simp [t0, t1, t2, t3, t9, t39, t40, t41, hlt, hld]
    refine Stk.callS 999 (push st xs[m]) rfl rfl rfl (by simp) ?_
    rintro v H2 n2 hz
    rw [if_pos (by simp; omega)] at hz
    obtain ⟨rfl, ia', ib', st'⟩ := hz
    replace st' := st'.st
    have e1 : (xs.take m).length = m := by simp; omega
    simp only [e1, show max m (m + 1) = m + 1 by omega] at st'
    rw [← List.take_succ_eq_append_getElem hlt] at st'
    have hw := wrap_succ m (by omega)
    simp [t41, hw]
    exact ⟨xs.length - (m + 1), by omega, hJ _ _ _ _ ⟨m + 1, ia', ib', by omega, rfl, by simp [t0], by simp [t1], by simp [t2], by simp [t3], by simp [t9], by simp [t39], by simp [t40], by simp, st'⟩⟩
  have : m = xs.length := by omega
  subst this
  rw [List.take_length] at st
  exact hJ0 _ _ _ (pB xs u1 u2 x h1 h2 C hr h0 hb p ia ib _ _ _ (by simp [t0]) (by simp [t1]) (by simp [t2]) (by simp [t3]) (by simp [t9]) st)
end Go.Proofs.Ytfflojbgikfbmaa.Sta
