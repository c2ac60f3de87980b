/-
  The statement StackSlots.
-/
import Derived.Test.YtfflojbgikfbmaaStkF
import Derived.Test.YtfflojbgikfbmaaAhC
import Derived.Test.YtfflojbgikfbmaaStkG
namespace Go.Proofs.Ytfflojbgikfbmaa.Sta
open Go.Proofs.YtfflojbgikfbmaaW.Ah
set_option maxRecDepth 4000
set_option linter.unusedVariables false
attribute [local simp] T.t3 T.t4 T.t5 T.t26 T.t39 T.t40 T.t41 T.t47 T.t49 T.t128 T.t130 T.t132 T.t135 T.t79 Op.maxDepth List.range List.range.loop
attribute [-simp] appendAV cellsOf cellOk partOk
attribute [local simp] cellsOf_sc cellOk_sc partOk_sc cellsOf_own cellOk_own partOk_own cellsOf_osl cellOk_osl partOk_osl cellsOf_sh cellOk_sh partOk_sh cellsOf_ssl cellOk_ssl partOk_ssl cellsOf_esl cellOk_esl partOk_esl cellsOf_fn cellOk_fn partOk_fn cellsOf_omap cellOk_omap partOk_omap cellsOf_agg partOk_agg cellsOf_slv cellOk_slv partOk_slv

theorem pB2 (xs : List Int) (a b : Nat) (x : Int) (C : Cont) (hC : ∀ t H n, resOf T.T Try.f5.results.toList ⟨t, H, n⟩ = some (B true) → C .ret t H n) (h0 : ¬ xs.length = 0) (hb : ¬ xs.length > 200) (ha : a < xs.length) (hbl : b < xs.length) (p : Nat) (ia ib : Option Nat) (t : Nat → AV) (H : Mem) (n : Nat)
    (t0 : t 0 = .ssl (encs eU xs) xs.length false) (t3 : t 3 = U x) (t9 : t 9 = .own p 0) (t13 : t 13 = I a) (t14 : t 14 = I b) (t80 : t 80 = I xs.length) (t81 : t 81 = I 0) (ys : List Int) (hys : ys = xs.set a x) (st : St H n p ⟨ys, [], xs.length, xs.length⟩ ia ib) :
    Stk Try.prog T.T 190 (codes ((seqs body5).drop 12)) t H n C := by
  have hyl : ys.length = xs.length := by rw [hys]; simp
  have hbs2 : Sk.base ⟨ys, [], xs.length, xs.length⟩ = 0 := rfl
  refine Stk.cut (l' := (seqs body5).drop 13) [_] rfl fun J0 hJ0 => ?_
  refine evS_sound (f := 999) ?_
  simp [codes]
  refine Stk.loop 999 (fun μ t H n => ∃ m : Nat, m ≤ xs.length ∧ μ = xs.length - m ∧ t 0 = .ssl (encs eU xs) xs.length false ∧ t 3 = U x ∧ t 9 = .own p 0 ∧ t 13 = I a ∧ t 14 = I b ∧ t 80 = I xs.length ∧ t 81 = I m ∧ St H n p ⟨ys, [], xs.length, xs.length⟩ ia ib) xs.length ?_ ?_
  · exact ⟨0, Nat.zero_le _, rfl, t0, t3, t9, t13, t14, t80, t81, st⟩
  clear st t0 t3 t9 t13 t14 t80 t81
  rintro J hJ μ t H n ⟨m, hm, rfl, t0, t3, t9, t13, t14, t80, t81, st⟩
  simp [t80, t81]
  refine ⟨fun hlt => ?_, fun hge => ?_⟩
  · simp [t0, t3, t9, t13, t81]
    refine Stk.callS 8 (get st m) rfl rfl rfl (by simp) ?_
    rintro v H2 n2 ⟨rfl, rfl, rfl⟩
    rw [if_pos (by rw [hbs2]; simp [hyl]; omega), hbs2]
    have hmy : m < ys.length := by omega
    have hw := wrap_succ m (by omega)
    have hld := load_u xs m hlt
    by_cases hma : m = a
    · subst hma
      have hv : ys[m] = x := by simp [hys]
      have hv2 : ys.getD (0 + ((m : Nat) : Int).toNat) 0 = x := by simp [hmy, hv]
      rw [hv2]
      simp [t0, t3, t9, t13, t81, hw]
      (refine evS_sound (f := 6) ?_; simp [t0, t3, t9, t13, t81, hw])
      (refine evS_sound (f := 6) ?_; simp [t0, t3, t9, t13, t81, hw])
      (refine evS_sound (f := 6) ?_; simp [t0, t3, t9, t13, t81, hw])
      (refine evS_sound (f := 6) ?_; simp [t0, t3, t9, t13, t81, hw])
      refine evS_sound (f := 999) ?_
      simp [t0, t3, t9, t13, t81, hw]
      exact ⟨xs.length - (m + 1), by omega, hJ _ _ _ _ ⟨m + 1, by omega, rfl, by simp [t0], by simp [t3], by simp [t9], by simp [t13], by simp [t14], by simp [t80], by simp, st⟩⟩
    · have hv : ys[m] = xs[m] := by simp [hys, Ne.symm hma]
      have hmb : ((m : Int) == (a : Int)) = false := by simp; omega
      have hmb2 : ((m : Int) != (a : Int)) = true := by simp; omega
      have hv2 : ys.getD (0 + ((m : Nat) : Int).toNat) 0 = xs[m] := by simp [hmy, hv]
      rw [hv2]
      simp [hmb, hmb2, t0, t3, t9, t13, t81, hlt, hld, hw]
      (refine evS_sound (f := 6) ?_; simp [hmb, hmb2, t0, t3, t9, t13, t81, hlt, hld, hw])
      (refine evS_sound (f := 6) ?_; simp [hmb, hmb2, t0, t3, t9, t13, t81, hlt, hld, hw])
      (refine evS_sound (f := 6) ?_; simp [hmb, hmb2, t0, t3, t9, t13, t81, hlt, hld, hw])
      (refine evS_sound (f := 6) ?_; simp [hmb, hmb2, t0, t3, t9, t13, t81, hlt, hld, hw])
      refine evS_sound (f := 999) ?_
      simp [hmb, hmb2, t0, t3, t9, t13, t81, hlt, hld, hw]
      exact ⟨xs.length - (m + 1), by omega, hJ _ _ _ _ ⟨m + 1, by omega, rfl, by simp [t0], by simp [t3], by simp [t9], by simp [t13], by simp [t14], by simp [t80], by simp, st⟩⟩
  have : m = xs.length := by omega
  subst this
  simp [codes]
  exact hJ0 _ _ _ (pC xs a b x C hC h0 hb ha hbl p ia ib _ _ _ (by simp [t0]) (by simp [t3]) (by simp [t9]) (by simp [t13]) (by simp [t14]) ys hys st)

end Go.Proofs.Ytfflojbgikfbmaa.Sta
