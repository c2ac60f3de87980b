/-
  The statement StackSlots.
-/
import Derived.Test.YtfflojbgikfbmaaStkF
import Derived.Test.YtfflojbgikfbmaaAhC
import Derived.Test.YtfflojbgikfbmaaStkH
namespace Go.Proofs.Ytfflojbgikfbmaa.Sta
open Go.Proofs.YtfflojbgikfbmaaW.Ah
set_option maxRecDepth 4000
set_option linter.unusedVariables false
attribute [local simp] T.t3 T.t4 T.t5 T.t26 T.t39 T.t40 T.t41 T.t47 T.t49 T.t128 T.t130 T.t132 T.t135 T.t79 Op.maxDepth List.range List.range.loop
attribute [-simp] appendAV cellsOf cellOk partOk
attribute [local simp] cellsOf_sc cellOk_sc partOk_sc cellsOf_own cellOk_own partOk_own cellsOf_osl cellOk_osl partOk_osl cellsOf_sh cellOk_sh partOk_sh cellsOf_ssl cellOk_ssl partOk_ssl cellsOf_esl cellOk_esl partOk_esl cellsOf_fn cellOk_fn partOk_fn cellsOf_omap cellOk_omap partOk_omap cellsOf_agg partOk_agg cellsOf_slv cellOk_slv partOk_slv

theorem pB (xs : List Int) (u1 u2 x : Int) (h1 : 0 ≤ u1 ∧ u1 < 256) (h2 : 0 ≤ u2 ∧ u2 < 256) (C : Cont) (hC : ∀ t H n, resOf T.T Try.f5.results.toList ⟨t, H, n⟩ = some (B true) → C .ret t H n) (h0 : ¬ xs.length = 0) (hb : ¬ xs.length > 200) (p : Nat) (ia ib : Option Nat) (t : Nat → AV) (H : Mem) (n : Nat)
    (t0 : t 0 = .ssl (encs eU xs) xs.length false) (t1 : t 1 = .sc (.int .u8 u1)) (t2 : t 2 = .sc (.int .u8 u2)) (t3 : t 3 = U x) (t9 : t 9 = .own p 0) (st : St H n p ⟨xs, [], xs.length, xs.length⟩ ia ib) :
    Stk Try.prog T.T 190 (codes ((seqs body5).drop 8)) t H n C := by
  have h0' : ¬ xs = [] := fun e => h0 (by rw [e]; rfl)
  obtain ⟨a, ha, ea⟩ := tmod_nat (k := xs.length) h1.1 (by omega)
  obtain ⟨b, hbl, eb⟩ := tmod_nat (k := xs.length) h2.1 (by omega)
  have w1 : IntKind.i64.wrap u1 = u1 := wrap64_id (by omega) (by omega)
  have w2 : IntKind.i64.wrap u2 = u2 := wrap64_id (by omega) (by omega)
  refine Stk.cut (l' := (seqs body5).drop 12) [_, _, _, _] rfl fun J0 hJ0 => ?_
  refine evS_sound (f := 999) ?_
  simp [codes]
  refine Stk.regionD 999 [.rd [], .rd [], .rd [], .rd [], .rd [], .rd [], .rd [], .rd [], .rd [], .rd [], .rd [], .rd []] none (by kernel_rfl) (by rfl) rfl (by simp [below, *]) rfl ?_
  simp [t0, t1, t2, t3, t9, w1, w2, h0', ea, eb]
  refine Stk.callS 999 (push st x) rfl rfl rfl (by simp [t9, t3]) ?_
  rintro v H2 n2 hz
  rw [if_neg (by simp)] at hz
  obtain ⟨rfl, rfl, rfl⟩ := hz
  simp
  have hbs : Sk.base ⟨xs, [], xs.length, xs.length⟩ = 0 := rfl
  refine Stk.callS 999 (set st a x) rfl rfl rfl (by simp [t9, t3]) ?_
  rintro v H2 n2 hz
  rw [if_pos (by rw [hbs]; simp; omega)] at hz
  obtain ⟨rfl, st2⟩ := hz
  replace st2 := st2.st
  rw [hbs] at st2
  simp at st2
  obtain ⟨ys, hys⟩ : ∃ ys, ys = xs.set a x := ⟨_, rfl⟩
  have hyl : ys.length = xs.length := by rw [hys]; simp
  rw [← hys] at st2
  simp [t0, t3, t9]
  have hbs2 : Sk.base ⟨ys, [], xs.length, xs.length⟩ = 0 := rfl
  refine Stk.callS 999 (set st2 xs.length x) rfl rfl rfl (by simp [t9, t3]) ?_
  rintro v H3 n3 hz
  rw [if_neg (by rw [hbs2]; simp [hyl])] at hz
  obtain ⟨rfl, rfl, rfl⟩ := hz
  simp [t0, t9]
  exact hJ0 _ _ _ (pB2 xs a b x C hC h0 hb ha hbl p ia ib _ _ _ (by simp [t0]) (by simp [t3]) (by simp [t9]) (by simp) (by simp) (by simp) (by simp) ys hys st2)

end Go.Proofs.Ytfflojbgikfbmaa.Sta
