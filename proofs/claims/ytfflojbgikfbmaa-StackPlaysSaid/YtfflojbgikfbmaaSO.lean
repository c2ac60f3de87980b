/-
  StackPlays: where no stack could be made.
-/
import Derived.Test.YtfflojbgikfbmaaSM
namespace Go.Proofs.Ytfflojbgikfbmaa.Sta
open Go.Proofs.YtfflojbgikfbmaaW.Ah
set_option maxRecDepth 4000
set_option linter.unusedVariables false
set_option linter.unusedSimpArgs false
attribute [local simp] T.t3 T.t4 T.t5 T.t26 T.t39 T.t40 T.t41 T.t47 T.t49 T.t73 T.t77 T.t79 T.t128 T.t130 T.t132 T.t135 T.t150 Op.maxDepth List.range List.range.loop
attribute [-simp] appendAV cellsOf cellOk partOk
attribute [local simp] cellsOf_sc cellOk_sc partOk_sc cellsOf_own cellOk_own partOk_own cellsOf_osl cellOk_osl partOk_osl cellsOf_sh cellOk_sh partOk_sh cellsOf_ssl cellOk_ssl partOk_ssl cellsOf_esl cellOk_esl partOk_esl cellsOf_fn cellOk_fn partOk_fn cellsOf_omap cellOk_omap partOk_omap cellsOf_agg partOk_agg cellsOf_slv cellOk_slv partOk_slv

theorem nilLacks (k : Int) : RunF Try.prog T.T 82 [.sc (.pointer none), I k] (I 19) := by
  refine RunF.ev 99 Try.func82 rfl rfl rfl rfl rfl fun C hr hn => ?_
  simp
  exact hr _ _ _ (by simp)

theorem nilSlot (k : Int) : RunF Try.prog T.T 86 [.sc (.pointer none), I k] (.tup [.sc (.pointer none), I 19]) := by
  refine RunF.ev 99 Try.func86 rfl rfl rfl rfl rfl fun C hr hn => ?_
  simp
  exact hr _ _ _ (by simp)

theorem nilPush (w : Int) : RunF Try.prog T.T 21 [.sc (.pointer none), U w] (I 19) := by
  refine RunF.ev 99 Try.func21 rfl rfl rfl rfl rfl fun C hr hn => ?_
  simp
  exact hr _ _ _ (by simp)

theorem nilPop : RunF Try.prog T.T 25 [.sc (.pointer none)] (.tup [U 0, I 19]) := by
  refine RunF.ev 99 Try.func25 rfl rfl rfl rfl rfl fun C hr hn => ?_
  simp
  refine Stk.callF 99 (nilLacks 1) rfl rfl rfl (by simp) rfl rfl ?_
  simp
  exact hr _ _ _ (by simp)

theorem nilGet (k : Int) : RunF Try.prog T.T 27 [.sc (.pointer none), I k] (.tup [U 0, I 19]) := by
  refine RunF.ev 99 Try.func27 rfl rfl rfl rfl rfl fun C hr hn => ?_
  simp
  refine Stk.callF 99 (nilSlot k) rfl rfl rfl (by simp) rfl rfl ?_
  simp
  exact hr _ _ _ (by simp)

theorem nilSet (k w : Int) : RunF Try.prog T.T 26 [.sc (.pointer none), I k, U w] (I 19) := by
  refine RunF.ev 99 Try.func26 rfl rfl rfl rfl rfl fun C hr hn => ?_
  simp
  refine Stk.callF 99 (nilSlot k) rfl rfl rfl (by simp) rfl rfl ?_
  simp
  exact hr _ _ _ (by simp)

theorem nilSlide (k : Int) : RunF Try.prog T.T 28 [.sc (.pointer none), I k] (I 19) := by
  refine RunF.ev 99 Try.func28 rfl rfl rfl rfl rfl fun C hr hn => ?_
  simp
  exact hr _ _ _ (by simp)

theorem nilEnter (g k : Int) : RunF Try.prog T.T 22 [.sc (.pointer none), I g, I k] (I 19) := by
  refine RunF.ev 99 Try.func22 rfl rfl rfl rfl rfl fun C hr hn => ?_
  simp
  exact hr _ _ _ (by simp)

theorem nilLeave : RunF Try.prog T.T 23 [.sc (.pointer none)] (I 19) := by
  refine RunF.ev 99 Try.func23 rfl rfl rfl rfl rfl fun C hr hn => ?_
  simp
  refine Stk.callF 99 (nilLacks 1) rfl rfl rfl (by simp) rfl rfl ?_
  simp
  exact hr _ _ _ (by simp)

theorem nilFrame : RunF Try.prog T.T 44 [.sc (.pointer none)] (.tup [.agg [I 0, I 0, I 0], B false]) := by
  refine RunF.ev 99 Try.func44 rfl rfl rfl rfl rfl fun C hr hn => ?_
  simp
  exact hr _ _ _ (by simp)

theorem nilRoots : RunF Try.prog T.T 29 [.sc (.pointer none)] (.sc (.slice none 0 0)) := by
  refine RunF.ev 99 Try.func29 rfl rfl rfl rfl rfl fun C hr hn => ?_
  simp
  exact hr _ _ _ (by simp)

theorem nilJump (k : Int) : RunF Try.prog T.T 107 [.sc (.pointer none), I k] (I 19) := by
  refine RunF.ev 99 Try.func107 rfl rfl rfl rfl rfl fun C hr hn => ?_
  simp
  exact hr _ _ _ (by simp)

theorem nilMoved : RunF Try.prog T.T 109 [.sc (.pointer none), .sc (.slice none 0 0)] (I 19) := by
  refine RunF.ev 99 Try.func109 rfl rfl rfl rfl rfl fun C hr hn => ?_
  simp
  exact hr _ _ _ (by simp)

theorem nilCut (k m : Int) : RunF Try.prog T.T 103 [.sc (.pointer none), I k, I m] (I 19) := by
  refine RunF.ev 12 Try.func103 rfl rfl rfl rfl rfl fun C hr hn => ?_
  simp
  iterate 4 (try (refine evS_sound (f := 8) ?_; simp))
  exact hr _ _ _ (by simp)

theorem nilDump : RunF Try.prog T.T 24 [.sc (.pointer none)] (.agg [.sc (.slice none 0 0), .sc (.slice none 0 0), I 0]) := by
  refine RunF.ev 99 Try.func24 rfl rfl rfl rfl rfl fun C hr hn => ?_
  simp
  exact hr _ _ _ (by simp)

theorem nilRPush (w : Int) : RunF Try.prog T.T 96 [.sc (.pointer none), U w] (I 19) := by
  refine RunF.ev 99 Try.func96 rfl rfl rfl rfl rfl fun C hr hn => ?_
  simp
  exact hr _ _ _ (by simp)

theorem nilRPop : RunF Try.prog T.T 97 [.sc (.pointer none)] (.tup [U 0, I 19]) := by
  refine RunF.ev 99 Try.func97 rfl rfl rfl rfl rfl fun C hr hn => ?_
  simp
  exact hr _ _ _ (by simp)

theorem nilRGet (k : Int) : RunF Try.prog T.T 98 [.sc (.pointer none), I k] (.tup [U 0, I 19]) := by
  refine RunF.ev 99 Try.func98 rfl rfl rfl rfl rfl fun C hr hn => ?_
  simp
  exact hr _ _ _ (by simp)

theorem nilRSet (k w : Int) : RunF Try.prog T.T 99 [.sc (.pointer none), I k, U w] (I 19) := by
  refine RunF.ev 99 Try.func99 rfl rfl rfl rfl rfl fun C hr hn => ?_
  simp
  refine Stk.callF 99 (nilRGet k) rfl rfl rfl (by simp) rfl rfl ?_
  simp
  exact hr _ _ _ (by simp)

theorem nilRSlide (k : Int) : RunF Try.prog T.T 100 [.sc (.pointer none), I k] (I 19) := by
  refine RunF.ev 99 Try.func100 rfl rfl rfl rfl rfl fun C hr hn => ?_
  simp
  exact hr _ _ _ (by simp)

theorem nilREnter (g k : Int) : RunF Try.prog T.T 101 [.sc (.pointer none), I g, I k] (I 19) := by
  refine RunF.ev 99 Try.func101 rfl rfl rfl rfl rfl fun C hr hn => ?_
  simp
  exact hr _ _ _ (by simp)

theorem nilRLeave : RunF Try.prog T.T 102 [.sc (.pointer none)] (I 19) := by
  refine RunF.ev 99 Try.func102 rfl rfl rfl rfl rfl fun C hr hn => ?_
  simp
  exact hr _ _ _ (by simp)

theorem nilRFrame : RunF Try.prog T.T 45 [.sc (.pointer none)] (.tup [.agg [I 0, I 0, I 0], B false]) := by
  refine RunF.ev 99 Try.func45 rfl rfl rfl rfl rfl fun C hr hn => ?_
  simp
  exact hr _ _ _ (by simp)

theorem nilRRoots : RunF Try.prog T.T 106 [.sc (.pointer none)] (.sc (.slice none 0 0)) := by
  refine RunF.ev 99 Try.func106 rfl rfl rfl rfl rfl fun C hr hn => ?_
  simp
  exact hr _ _ _ (by simp)

theorem nilRJump (k : Int) : RunF Try.prog T.T 108 [.sc (.pointer none), I k] (I 19) := by
  refine RunF.ev 99 Try.func108 rfl rfl rfl rfl rfl fun C hr hn => ?_
  simp
  exact hr _ _ _ (by simp)

theorem nilRMoved : RunF Try.prog T.T 110 [.sc (.pointer none), .sc (.slice none 0 0)] (I 19) := by
  refine RunF.ev 99 Try.func110 rfl rfl rfl rfl rfl fun C hr hn => ?_
  simp
  exact hr _ _ _ (by simp)

theorem nilRCut (k m : Int) : RunF Try.prog T.T 104 [.sc (.pointer none), I k, I m] (I 19) := by
  refine RunF.ev 99 Try.func104 rfl rfl rfl rfl rfl fun C hr hn => ?_
  simp
  exact hr _ _ _ (by simp)

theorem nilRDump : RunF Try.prog T.T 48 [.sc (.pointer none)] (.agg [.sc (.slice none 0 0), .sc (.slice none 0 0), I 0]) := by
  refine RunF.ev 99 Try.func48 rfl rfl rfl rfl rfl fun C hr hn => ?_
  simp
  exact hr _ _ _ (by simp)

theorem nilWords : RunF Try.prog T.T 105 [.sc (.slice none 0 0), .sc (.slice none 0 0)] (B true) := by
  refine RunF.ev 99 Try.func105 rfl rfl rfl rfl rfl fun C hr hn => ?_
  simp
  refine Stk.loop 99 (fun μ t H n => t 0 = .sc (.slice none 0 0) ∧ t 5 = I 0) 0 ⟨by simp, by simp⟩ ?_
  rintro J hJ μ t H n ⟨t0, t3⟩
  simp [t0, t3]
  exact hr _ _ _ (by simp)

theorem nil_push0 (H : Mem) (n : Nat) (kd w i m : Int) (hk : kd.tmod 10 = 0) : RunQ Try.prog T.T 46 [.sc (.pointer none), .sc (.pointer none), .agg [.sc (.int .u8 kd), U w, I i, I m]] H n (fun r H' n' => r = B true ∧ ∀ j, j < n → H' j = H j) := by
  refine RunQ.ev 40 Try.func46 rfl rfl rfl rfl rfl fun C hr hn => ?_
  simp [hk]
  iterate 2 (try (refine evS_sound (f := 30) ?_; simp [hk]))
  refine Stk.regionD 30 [.rd [], .rd [], .rd [n], .rd [], .rd [], .rd [], .rd [n], .rd [], .rd [], .rd []] none (by kernel_rfl) (by rfl) rfl (by simp [below]) rfl ?_
  simp
  refine Stk.callFD 30 (nilPush w) rfl rfl rfl rfl rfl (by simp) rfl rfl ?_
  simp
  refine Stk.callFD 30 (nilRPush w) rfl rfl rfl rfl rfl (by simp) rfl rfl ?_
  simp
  exact hr _ _ _ (B true) (by simp) ⟨rfl, fun j hj => by simp [show ¬ j = n by omega]⟩

theorem nil_push1 (H : Mem) (n : Nat) (kd w i m : Int) (hk : kd.tmod 10 = 1) : RunQ Try.prog T.T 46 [.sc (.pointer none), .sc (.pointer none), .agg [.sc (.int .u8 kd), U w, I i, I m]] H n (fun r H' n' => r = B true ∧ ∀ j, j < n → H' j = H j) := by
  refine RunQ.ev 40 Try.func46 rfl rfl rfl rfl rfl fun C hr hn => ?_
  simp [hk]
  iterate 2 (try (refine evS_sound (f := 30) ?_; simp [hk]))
  refine Stk.regionD 30 [.rd [], .rd [], .rd [n], .rd [], .rd [], .rd [], .rd [n], .rd [], .rd [], .rd []] none (by kernel_rfl) (by rfl) rfl (by simp [below]) rfl ?_
  simp
  refine Stk.callFD 30 (nilPush w) rfl rfl rfl rfl rfl (by simp) rfl rfl ?_
  simp
  refine Stk.callFD 30 (nilRPush w) rfl rfl rfl rfl rfl (by simp) rfl rfl ?_
  simp
  exact hr _ _ _ (B true) (by simp) ⟨rfl, fun j hj => by simp [show ¬ j = n by omega]⟩

theorem nil_pop (H : Mem) (n : Nat) (kd w i m : Int) (hk : kd.tmod 10 = 2) : RunQ Try.prog T.T 46 [.sc (.pointer none), .sc (.pointer none), .agg [.sc (.int .u8 kd), U w, I i, I m]] H n (fun r H' n' => r = B true ∧ ∀ j, j < n → H' j = H j) := by
  refine RunQ.ev 40 Try.func46 rfl rfl rfl rfl rfl fun C hr hn => ?_
  simp [hk]
  iterate 2 (try (refine evS_sound (f := 30) ?_; simp [hk]))
  refine Stk.callF 30 (nilPop) rfl rfl rfl (by simp) rfl rfl ?_
  simp
  refine Stk.callF 30 (nilRPop) rfl rfl rfl (by simp) rfl rfl ?_
  simp
  exact hr _ _ _ (B true) (by simp) ⟨rfl, fun j hj => by simp [show ¬ j = n by omega]⟩

theorem nil_get (H : Mem) (n : Nat) (kd w i m : Int) (hk : kd.tmod 10 = 3) : RunQ Try.prog T.T 46 [.sc (.pointer none), .sc (.pointer none), .agg [.sc (.int .u8 kd), U w, I i, I m]] H n (fun r H' n' => r = B true ∧ ∀ j, j < n → H' j = H j) := by
  refine RunQ.ev 40 Try.func46 rfl rfl rfl rfl rfl fun C hr hn => ?_
  simp [hk]
  iterate 2 (try (refine evS_sound (f := 30) ?_; simp [hk]))
  refine Stk.callF 30 (nilGet i) rfl rfl rfl (by simp) rfl rfl ?_
  simp
  refine Stk.callF 30 (nilRGet i) rfl rfl rfl (by simp) rfl rfl ?_
  simp
  exact hr _ _ _ (B true) (by simp) ⟨rfl, fun j hj => by simp [show ¬ j = n by omega]⟩

theorem nil_set (H : Mem) (n : Nat) (kd w i m : Int) (hk : kd.tmod 10 = 4) : RunQ Try.prog T.T 46 [.sc (.pointer none), .sc (.pointer none), .agg [.sc (.int .u8 kd), U w, I i, I m]] H n (fun r H' n' => r = B true ∧ ∀ j, j < n → H' j = H j) := by
  refine RunQ.ev 40 Try.func46 rfl rfl rfl rfl rfl fun C hr hn => ?_
  simp [hk]
  iterate 2 (try (refine evS_sound (f := 30) ?_; simp [hk]))
  refine Stk.regionD 30 [.rd [], .rd [], .rd [n], .rd [], .rd [n], .rd [], .rd [], .rd [], .rd [n], .rd [], .rd [n], .rd [], .rd [], .rd []] none (by kernel_rfl) (by rfl) rfl (by simp [below]) rfl ?_
  simp
  refine Stk.callFD 30 (nilSet i w) rfl rfl rfl rfl rfl (by simp) rfl rfl ?_
  simp
  refine Stk.callFD 30 (nilRSet i w) rfl rfl rfl rfl rfl (by simp) rfl rfl ?_
  simp
  exact hr _ _ _ (B true) (by simp) ⟨rfl, fun j hj => by simp [show ¬ j = n by omega]⟩

theorem nil_slide (H : Mem) (n : Nat) (kd w i m : Int) (hk : kd.tmod 10 = 5) : RunQ Try.prog T.T 46 [.sc (.pointer none), .sc (.pointer none), .agg [.sc (.int .u8 kd), U w, I i, I m]] H n (fun r H' n' => r = B true ∧ ∀ j, j < n → H' j = H j) := by
  refine RunQ.ev 40 Try.func46 rfl rfl rfl rfl rfl fun C hr hn => ?_
  simp [hk]
  iterate 2 (try (refine evS_sound (f := 30) ?_; simp [hk]))
  refine Stk.regionD 30 [.rd [], .rd [], .rd [n], .rd [], .rd [], .rd [], .rd [n], .rd [], .rd [], .rd []] none (by kernel_rfl) (by rfl) rfl (by simp [below]) rfl ?_
  simp
  refine Stk.callFD 30 (nilSlide i) rfl rfl rfl rfl rfl (by simp) rfl rfl ?_
  simp
  refine Stk.callFD 30 (nilRSlide i) rfl rfl rfl rfl rfl (by simp) rfl rfl ?_
  simp
  exact hr _ _ _ (B true) (by simp) ⟨rfl, fun j hj => by simp [show ¬ j = n by omega]⟩

theorem nil_enter (H : Mem) (n : Nat) (kd w i m : Int) (hk : kd.tmod 10 = 6) : RunQ Try.prog T.T 46 [.sc (.pointer none), .sc (.pointer none), .agg [.sc (.int .u8 kd), U w, I i, I m]] H n (fun r H' n' => r = B true ∧ ∀ j, j < n → H' j = H j) := by
  refine RunQ.ev 40 Try.func46 rfl rfl rfl rfl rfl fun C hr hn => ?_
  simp [hk]
  iterate 2 (try (refine evS_sound (f := 30) ?_; simp [hk]))
  refine Stk.regionD 30 [.rd [], .rd [], .rd [n], .rd [], .rd [n], .rd [], .rd [], .rd [], .rd [n], .rd [], .rd [n], .rd [], .rd [], .rd []] none (by kernel_rfl) (by rfl) rfl (by simp [below]) rfl ?_
  simp
  refine Stk.callFD 30 (nilEnter m i) rfl rfl rfl rfl rfl (by simp) rfl rfl ?_
  simp
  refine Stk.callFD 30 (nilREnter m i) rfl rfl rfl rfl rfl (by simp) rfl rfl ?_
  simp
  exact hr _ _ _ (B true) (by simp) ⟨rfl, fun j hj => by simp [show ¬ j = n by omega]⟩

theorem nil_leave (H : Mem) (n : Nat) (kd w i m : Int) (hk : kd.tmod 10 = 7) : RunQ Try.prog T.T 46 [.sc (.pointer none), .sc (.pointer none), .agg [.sc (.int .u8 kd), U w, I i, I m]] H n (fun r H' n' => r = B true ∧ ∀ j, j < n → H' j = H j) := by
  refine RunQ.ev 40 Try.func46 rfl rfl rfl rfl rfl fun C hr hn => ?_
  simp [hk]
  iterate 2 (try (refine evS_sound (f := 30) ?_; simp [hk]))
  refine Stk.callF 30 (nilLeave) rfl rfl rfl (by simp) rfl rfl ?_
  simp
  refine Stk.callF 30 (nilRLeave) rfl rfl rfl (by simp) rfl rfl ?_
  simp
  exact hr _ _ _ (B true) (by simp) ⟨rfl, fun j hj => by simp [show ¬ j = n by omega]⟩

theorem nil_cut (H : Mem) (n : Nat) (kd w i m : Int) (hk : kd.tmod 10 = 9) : RunQ Try.prog T.T 46 [.sc (.pointer none), .sc (.pointer none), .agg [.sc (.int .u8 kd), U w, I i, I m]] H n (fun r H' n' => r = B true ∧ ∀ j, j < n → H' j = H j) := by
  refine RunQ.ev 40 Try.func46 rfl rfl rfl rfl rfl fun C hr hn => ?_
  simp [hk]
  iterate 2 (try (refine evS_sound (f := 30) ?_; simp [hk]))
  refine Stk.regionD 30 [.rd [], .rd [], .rd [n], .rd [], .rd [n], .rd [], .rd [], .rd [], .rd [n], .rd [], .rd [n], .rd [], .rd [], .rd []] none (by kernel_rfl) (by rfl) rfl (by simp [below]) rfl ?_
  simp
  refine Stk.callFD 30 (nilCut i m) rfl rfl rfl rfl rfl (by simp) rfl rfl ?_
  simp
  refine Stk.callFD 30 (nilRCut i m) rfl rfl rfl rfl rfl (by simp) rfl rfl ?_
  simp
  exact hr _ _ _ (B true) (by simp) ⟨rfl, fun j hj => by simp [show ¬ j = n by omega]⟩

theorem nil_8 (H : Mem) (n : Nat) (kd w i m : Int) (hk : kd.tmod 10 = 8) (hw0 : 0 ≤ w) : RunQ Try.prog T.T 46 [.sc (.pointer none), .sc (.pointer none), .agg [.sc (.int .u8 kd), U w, I i, I m]] H n (fun r H' n' => r = B true ∧ ∀ j, j < n → H' j = H j) := by
  obtain ⟨e, d, hd, hq1, hq2⟩ := quo5 w hw0
  refine RunQ.ev 40 Try.func46 rfl rfl rfl rfl rfl fun C hr hn => ?_
  simp [hk]
  iterate 2 (try (refine evS_sound (f := 30) ?_; simp [hk]))
  refine Stk.callF 30 nilRoots rfl rfl rfl (by simp) rfl rfl ?_
  simp
  refine Stk.callF 30 nilRRoots rfl rfl rfl (by simp) rfl rfl ?_
  simp
  refine Stk.callF 30 nilWords rfl rfl rfl (by simp) rfl rfl ?_
  simp
  obtain ⟨Z, hZ⟩ : ∃ Z : Mem, Z = upd H n (some (.cells [.sc (.int .u8 kd), U w, I i, I m] 77)) := ⟨_, rfl⟩
  have zn : Z n = some (.cells [.sc (.int .u8 kd), U w, I i, I m] 77) := by rw [hZ, upd_same]
  rw [← hZ]
  refine Stk.loop 9 (fun μ t H4 n4 => t 0 = .sc (.pointer none) ∧ t 1 = .sc (.pointer none) ∧ t 5 = .own n 0 ∧ t 15 = .sc (.slice none 0 0) ∧ t 147 = I 0 ∧ t 148 = I 0 ∧ H4 = Z) 0 ⟨by simp, by simp, by simp, by simp, by simp, by simp, rfl⟩ ?_
  rintro J hJ μ t H4 n4 ⟨t0, t1', t5, t15, t147, t148, hH4⟩
  subst hH4
  have w0 : IntKind.i64.wrap 0 = 0 := by decide
  have w1 : IntKind.i64.wrap 1 = 1 := by decide
  have w2' : IntKind.i64.wrap (-1) = -1 := by decide
  have hd2 : d = 0 ∨ d = 1 := by omega
  rcases hd2 with rfl | rfl
  · simp [t147, t148]
    iterate 3 (try (refine evS_sound (f := 12) ?_; simp [t15, t5, zn, partOf, hq1, hq2, w0, w1, w2', natOk]))
    refine Stk.regionD 30 [.rd [], .rd [], .rd [n], .rd [], .rd [], .rd [], .rd [n], .rd [], .rd [], .rd [], .rd [], .rd [], .rd [], .rd [], .rd [], .rd [], .rd [], .rd [], .rd []] none (by kernel_rfl) (by rfl) rfl (by simp [below]) rfl ?_
    simp [t0, t1', t5, t15, zn, partOf]
    refine Stk.callFD 30 (nilJump m) rfl rfl rfl rfl rfl (by simp) rfl rfl ?_
    simp [t0, t1', t5, t15, zn, partOf]
    refine Stk.callFD 30 (nilRJump m) rfl rfl rfl rfl rfl (by simp) rfl rfl ?_
    simp [t0, t1', t5, t15, zn, partOf]
    refine Stk.callFD 30 nilMoved rfl rfl rfl rfl rfl (by simp) rfl rfl ?_
    simp [t0, t1', t5, t15, zn, partOf]
    refine Stk.callFD 30 nilRMoved rfl rfl rfl rfl rfl (by simp) rfl rfl ?_
    simp
    exact hr _ _ _ (B true) (by simp) ⟨rfl, fun j hj => by rw [hZ, upd_ne _ _ (by omega)]⟩
  · simp [t147, t148]
    iterate 3 (try (refine evS_sound (f := 12) ?_; simp [t15, t5, zn, partOf, hq1, hq2, w0, w1, w2', natOk]))
    refine Stk.regionD 30 [.rd [], .rd [], .rd [n], .rd [], .rd [], .rd [], .rd [n], .rd [], .rd [], .rd [], .rd [], .rd [], .rd [], .rd [], .rd [], .rd [], .rd [], .rd [], .rd []] none (by kernel_rfl) (by rfl) rfl (by simp [below]) rfl ?_
    simp [t0, t1', t5, t15, zn, partOf]
    refine Stk.callFD 30 (nilJump m) rfl rfl rfl rfl rfl (by simp) rfl rfl ?_
    simp [t0, t1', t5, t15, zn, partOf]
    refine Stk.callFD 30 (nilRJump m) rfl rfl rfl rfl rfl (by simp) rfl rfl ?_
    simp [t0, t1', t5, t15, zn, partOf]
    refine Stk.callFD 30 nilMoved rfl rfl rfl rfl rfl (by simp) rfl rfl ?_
    simp [t0, t1', t5, t15, zn, partOf]
    refine Stk.callFD 30 nilRMoved rfl rfl rfl rfl rfl (by simp) rfl rfl ?_
    simp
    exact hr _ _ _ (B true) (by simp) ⟨rfl, fun j hj => by rw [hZ, upd_ne _ _ (by omega)]⟩

theorem nilSame (H : Mem) (n : Nat) (kd w i m : Int) (hk0 : 0 ≤ kd) (hw0 : 0 ≤ w) : RunQ Try.prog T.T 46 [.sc (.pointer none), .sc (.pointer none), .agg [.sc (.int .u8 kd), U w, I i, I m]] H n (fun r H' n' => r = B true ∧ ∀ j, j < n → H' j = H j) := by
  have hc : kd.tmod 10 = 0 ∨ kd.tmod 10 = 1 ∨ kd.tmod 10 = 2 ∨ kd.tmod 10 = 3 ∨ kd.tmod 10 = 4 ∨ kd.tmod 10 = 5 ∨ kd.tmod 10 = 6 ∨ kd.tmod 10 = 7 ∨ kd.tmod 10 = 8 ∨ kd.tmod 10 = 9 := by
    rw [Int.tmod_eq_emod_of_nonneg hk0]; omega
  rcases hc with hk | hk | hk | hk | hk | hk | hk | hk | hk | hk
  · exact nil_push0 H n kd w i m hk
  · exact nil_push1 H n kd w i m hk
  · exact nil_pop H n kd w i m hk
  · exact nil_get H n kd w i m hk
  · exact nil_set H n kd w i m hk
  · exact nil_slide H n kd w i m hk
  · exact nil_enter H n kd w i m hk
  · exact nil_leave H n kd w i m hk
  · exact nil_8 H n kd w i m hk hw0
  · exact nil_cut H n kd w i m hk

end Go.Proofs.Ytfflojbgikfbmaa.Sta
