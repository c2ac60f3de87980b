/-
  The statement StackBack, from behind.
-/
import Derived.Test.YtfflojbgikfbmaaStkG
namespace Go.Proofs.Ytfflojbgikfbmaa.Sta
open Go.Proofs.YtfflojbgikfbmaaW.Ah
set_option maxRecDepth 4000
set_option linter.unusedVariables false
set_option linter.unusedSimpArgs false
attribute [local simp] T.t3 T.t4 T.t5 T.t26 T.t39 T.t40 T.t41 T.t47 T.t49 T.t128 T.t130 T.t132 T.t135 T.t79 Op.maxDepth List.range List.range.loop
attribute [-simp] appendAV cellsOf cellOk partOk
attribute [local simp] cellsOf_sc cellOk_sc partOk_sc cellsOf_own cellOk_own partOk_own cellsOf_osl cellOk_osl partOk_osl cellsOf_sh cellOk_sh partOk_sh cellsOf_ssl cellOk_ssl partOk_ssl cellsOf_esl cellOk_esl partOk_esl cellsOf_fn cellOk_fn partOk_fn cellsOf_omap cellOk_omap partOk_omap cellsOf_agg partOk_agg cellsOf_slv cellOk_slv partOk_slv
noncomputable def body4 : Code := Try.f4.body.getD .skip

/-- All is popped. -/
theorem bD (xs : List Int) (a : Nat) (x : Int) (C : Cont) (hC : ∀ t H n, resOf T.T Try.f4.results.toList ⟨t, H, n⟩ = some (B true) → C .ret t H n) (hb : ¬ xs.length > 200) (ha : a < xs.length + 1) (p : Nat) (ia ib : Option Nat) (t : Nat → AV) (H : Mem) (n : Nat)
    (t0 : t 0 = .ssl (encs eU xs) xs.length false) (t7 : t 7 = .own p 0) (t11 : t 11 = I a) (st : St H n p ⟨xs.take (xs.length - a), [], xs.length + 1, xs.length + 1⟩ ia ib) :
    Stk Try.prog T.T 140 (codes ((seqs body4).drop 17)) t H n C := by
  have hw1 : IntKind.i64.wrap ((xs.length : Int) - a) = (xs.length : Int) - a := wrap64_id (by omega) (by omega)
  have hw2 : IntKind.i64.wrap ((xs.length : Int) - a - 1) = (xs.length : Int) - a - 1 := wrap64_id (by omega) (by omega)
  refine Stk.cut (l' := []) [_, _, _, _, _] rfl fun J hJ => ?_
  refine evS_sound (f := 999) ?_
  simp [codes, t0, t11, hw1, hw2]
  refine Stk.loop 999 (fun μ t H2 n2 => ∃ m : Nat, ∃ ia ib, m ≤ xs.length - a ∧ μ = m ∧ t 0 = .ssl (encs eU xs) xs.length false ∧ t 7 = .own p 0 ∧ t 15 = I ((m : Int) - 1) ∧ St H2 n2 p ⟨xs.take m, [], xs.length + 1, xs.length + 1⟩ ia ib) (xs.length - a) ?_ ?_
  · exact ⟨xs.length - a, ia, ib, Nat.le_refl _, rfl, by simp [t0], by simp [t7], by simp; omega, st⟩
  clear st t0 t7 t11
  rintro J2 hJ2 μ t H2 n2 ⟨m, ia, ib, hm, hμ, t0, t7, t15, st⟩
  have hlt : (xs.take m).length = m := by simp; omega
  have hbs : Sk.base ⟨xs.take m, [], xs.length + 1, xs.length + 1⟩ = 0 := rfl
  by_cases h0 : m = 0
  · subst h0
    simp [t15, t7]
    refine Stk.callS 999 (pop st) rfl rfl rfl (by simp) ?_
    rintro v H3 n3 hz
    rw [if_neg (by simp)] at hz
    obtain ⟨rfl, rfl, rfl⟩ := hz
    simp
    refine Stk.callF 999 awake rfl rfl rfl (by simp) rfl rfl ?_
    simp
    exact hC _ _ _ (by simp)
  · have hge : (0 : Int) ≤ (m : Int) - 1 := by omega
    have hmx : m - 1 < xs.length := by omega
    have hld := load_u xs (m - 1) hmx
    have hw : IntKind.i64.wrap (((m - 1 : Nat) : Int) - 1) = ((m - 1 : Nat) : Int) - 1 := wrap64_id (by omega) (by omega)
    have hn : ((m : Int) - 1) = ((m - 1 : Nat) : Int) := by omega
    rw [hn] at t15
    simp [t15, t7]
    refine Stk.callS 8 (pop st) rfl rfl rfl (by simp) ?_
    rintro v H3 n3 hz
    rw [if_pos (by rw [hbs, hlt]; omega)] at hz
    obtain ⟨hv, st2⟩ := hz
    replace st2 := st2.st
    simp only [hlt] at hv st2
    have hg : (xs.take m).getD (m - 1) 0 = xs[m - 1] := by simp [hmx, show m - 1 < m by omega]
    rw [hg] at hv
    subst hv
    rw [List.take_take, Nat.min_eq_left (by omega)] at st2
    simp [t15, t7, t0, hmx, hld, hw]
    (refine evS_sound (f := 6) ?_; simp [t15, t7, t0, hmx, hld, hw])
    (refine evS_sound (f := 6) ?_; simp [t15, t7, t0, hmx, hld, hw])
    refine evS_sound (f := 999) ?_
    simp [t15, t7, t0, hmx, hld, hw]
    exact ⟨m - 1, by omega, hJ2 _ _ _ _ ⟨m - 1, ia, ib, by omega, rfl, by simp [t0], by simp [t7], by simp, st2⟩⟩
end Go.Proofs.Ytfflojbgikfbmaa.Sta
