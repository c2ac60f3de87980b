/-
  The statement HeapMoves.
-/
import Derived.Test.YtfflojbgikfbmaaHQ
namespace Go.Proofs.Ytfflojbgikfbmaa.Hea
open Go.Proofs.YtfflojbgikfbmaaW.Ah
open Go.Proofs.Ytfflojbgikfbmaa.Sta (U Er eU wrap_nsub wrap_pred load_u tmod_nat)
set_option maxRecDepth 4000
set_option linter.unusedVariables false
set_option linter.unusedSimpArgs false
attribute [local simp] T.t3 T.t4 T.t5 T.t26 T.t34 T.t39 T.t40 T.t62 T.t63 T.t70 T.t93 T.t144 Op.maxDepth List.range List.range.loop
attribute [-simp] appendAV cellsOf cellOk partOk
attribute [local simp] cellsOf_sc cellOk_sc partOk_sc cellsOf_own cellOk_own partOk_own cellsOf_osl cellOk_osl partOk_osl cellsOf_sh cellOk_sh partOk_sh cellsOf_ssl cellOk_ssl partOk_ssl cellsOf_esl cellOk_esl partOk_esl cellsOf_fn cellOk_fn partOk_fn cellsOf_omap cellOk_omap partOk_omap cellsOf_agg partOk_agg cellsOf_slv cellOk_slv partOk_slv

theorem mD (C : Cont) (hC : ∀ t H n, resOf T.T Try.f9.results.toList ⟨t, H, n⟩ = some (B true) → C .ret t H n)
    (t : Nat → AV) (H : Mem) (n p i : Nat) (c : Option Nat) (h2 : Hp) (A k : Nat) (w : Int) (x : Int × Int × Int) (ia ib : Option Nat) (ws : List Int) (ys : List (Int × Int × Int)) (n25 n27 : Nat) (t5 : t 5 = .own p 0) (t7 : t 7 = slv ia ws.length) (t8 : t 8 = slv ib ys.length) (t15 : t 15 = I k) (t16 : t 16 = U (802 : Int)) (t17 : t 17 = I (size x.1 x.2.1 x.2.2)) (t18 : t 18 = I 0) (t19 : t 19 = U (802 : Int)) (t20 : t 20 = I 0) (t21 : t 21 = I 0) (t22 : t 22 = U (802 : Int)) (t23 : t 23 = I 0) (t24 : t 24 = I 0) (t25 : t 25 = .own n25 0) (t26 : t 26 = I 0) (t27 : t 27 = .own n27 0) (t28 : t 28 = I 0)
    (hx1 : H n25 = some (.cells (eH x) 34)) (hx2 : H n27 = some (.cells (eH x) 34)) (hn1 : n25 < n) (hn2 : n27 < n) (oa : Own H 40 eU ia ws) (ob : Own H 34 eH ib ys) (hja : ∀ j, ia = some j → j < n) (hjb : ∀ j, ib = some j → j < n) (hw : ws[k]? = some w) (hx : ys[k]? = some x) (st : St H n p i c h2) (hh : h2.half = 400) (hu : h2.up = true) (hnx : h2.next = 401 + size x.1 x.2.1 x.2.2) (hwA : w = ((2 * A : Nat) : Int)) (hA : A ≤ 400) (g1 : h2.recAt w = some (401, x)) (g4 : h2.recAt (802 : Int) = some (401, x)) :
    Stk Try.prog T.T 261 (codes ((seqs body9).drop 18)) t H n C := by
  obtain ⟨hk, hw'⟩ := List.getElem?_eq_some_iff.1 hw
  obtain ⟨hk2, hx'⟩ := List.getElem?_eq_some_iff.1 hx
  cases ia with
  | none => have h0 : ws = [] := oa; rw [h0] at hk; exact absurd hk (Nat.not_lt_zero _)
  | some ja =>
    cases ib with
    | none => have h0 : ys = [] := ob; rw [h0] at hk2; exact absurd hk2 (Nat.not_lt_zero _)
    | some jb =>
      obtain ⟨yz, ob'⟩ := ob
      have hpo := part_own (e := eH) (z := 3) T.t34 rfl rfl ys yz k hk2
      rw [hx'] at hpo
      have hki2 : (k : Int) < ys.length := by omega
      have w0 : IntKind.i64.wrap 0 = 0 := by decide
      refine Stk.cut (l' := (seqs body9).drop 21) [_, _, _] rfl fun J hJ => ?_
      refine evS_sound (f := 99) ?_
      simp [codes]
      refine Stk.regionD 6 [.rd [], .rd [], .rd [], .rd [], .rd [], .rd [], .rd [], .rd [], .rd [], .rd [], .rd [], .rd [], .rd [], .rd [], .rd [], .rd [], .rd [], .rd [], .rd [], .rd [], .rd [], .rd [], .rd [], .rd [], .rd [], .rd [], .rd [], .rd [], .rd [], .rd [], .rd [], .rd [], .rd [], .rd [jb], .rd [], .rd [], .rd [], .rd [], .rd [], .rd [], .rd [], .rd [], .rd [], .rd [], .rd [n25], .rd [], .rd [], .rd [], .rd [jb], .rd [], .rd [], .rd [], .rd [n27], .rd [n25], .rd [], .rd []] none (by kernel_rfl) (by rfl) rfl (by simp [below]) rfl ?_
      simp [t18, t21]
      (refine evS_sound (f := 8) ?_; simp [t7, t8, t15, t16, t17, t18, t19, t20, t21, t22, t23, t24, t25, t26, t27, t28, ob', hpo, hki2, hk2, hx1, hx2, w0])
      (refine evS_sound (f := 8) ?_; simp [t7, t8, t15, t16, t17, t18, t19, t20, t21, t22, t23, t24, t25, t26, t27, t28, ob', hpo, hki2, hk2, hx1, hx2, w0])
      (refine evS_sound (f := 8) ?_; simp [t7, t8, t15, t16, t17, t18, t19, t20, t21, t22, t23, t24, t25, t26, t27, t28, ob', hpo, hki2, hk2, hx1, hx2, w0])
      (refine evS_sound (f := 8) ?_; simp [t7, t8, t15, t16, t17, t18, t19, t20, t21, t22, t23, t24, t25, t26, t27, t28, ob', hpo, hki2, hk2, hx1, hx2, w0])
      refine Stk.callFD 6 (sizeF x.1 x.2.1 x.2.2) rfl rfl rfl rfl rfl (by simp) rfl rfl ?_
      simp [t7, t8, t15, t16, t17, t18, t19, t20, t21, t22, t23, t24, t25, t26, t27, t28, ob', hpo, hki2, hk2, hx1, hx2, w0]
      (refine evS_sound (f := 8) ?_; simp [t7, t8, t15, t16, t17, t18, t19, t20, t21, t22, t23, t24, t25, t26, t27, t28, ob', hpo, hki2, hk2, hx1, hx2, w0])
      (refine evS_sound (f := 8) ?_; simp [t7, t8, t15, t16, t17, t18, t19, t20, t21, t22, t23, t24, t25, t26, t27, t28, ob', hpo, hki2, hk2, hx1, hx2, w0, partOf])
      (refine evS_sound (f := 8) ?_; simp [t7, t8, t15, t16, t17, t18, t19, t20, t21, t22, t23, t24, t25, t26, t27, t28, ob', hpo, hki2, hk2, hx1, hx2, w0, partOf])
      exact hJ _ _ _ (mE C hC _ H n p i c h2 A k w x ja ws n25 (by simp [t5]) (by simp [t7]) (by simp [t15]) (by simp [t16]) (by simp [t17]) (by simp [t25]) (by simp) hx1 hn1 oa (hja ja rfl) hk hw'.symm st hh hu hnx hwA hA g1 g4)

theorem moves (xs : List (Int × Int × Int)) (u : Int) (hu : 0 ≤ u ∧ u < 256) : RunF Try.prog T.T 9 [.ssl (encs eH xs) xs.length false, .sc (.int .u8 u)] (B true) := by
  refine RunF.parts (c := body9) Try.func9 (by rfl) rfl rfl rfl rfl fun C hr hn => ?_
  refine Stk.cut (l' := (seqs body9).drop 9) [_, _, _, _, _, _, _, _, _] rfl fun J0 hJ0 => ?_
  refine evS_sound (f := 999) ?_
  have wk : ∀ (t : Nat → AV) H n, Stk Try.prog T.T 261 (codes ((seqs body9).drop 9)) t H n C → J0 0 t H n := fun t H n h => hJ0 t H n h
  by_cases h1 : 40 < xs.length
  · have h1' : (40 : Int) < xs.length := by omega
    simp [codes, h1, h1']
    refine Stk.callF 999 awake rfl rfl rfl (by simp) rfl rfl ?_
    simp
    exact hr _ _ _ (by simp)
  · have h1' : ¬ (40 : Int) < xs.length := by omega
    by_cases h2 : xs.length = 0
    · have : xs = [] := List.length_eq_zero_iff.1 h2
      subst this
      simp [codes]
      refine Stk.callF 999 awake rfl rfl rfl (by simp) rfl rfl ?_
      simp
      exact hr _ _ _ (by simp)
    · have h2' : ¬ xs = [] := fun e => h2 (by rw [e]; rfl)
      have h2b : ((xs.length : Int) == 0) = false := by simp [h2']
      simp [codes, h1, h1', h2', h2b]
      refine Stk.callS 999 (new _ _ 400) rfl rfl rfl (by simp) ?_
      intro v H1 n1 hz
      rw [if_pos (by decide)] at hz
      obtain ⟨p, i, rfl, _, _, hc, st⟩ := hz
      simp
      refine wk _ _ _ (mL xs u (by omega) C (fun t H n p i c h ia ib ws ys a1 a5 a7 a8 s hh hu' td hl => mC u hu C hr (fun t H n p i c h2 A k w x ia ib ws ys n25 n27 b5 b7 b8 b15 b16 b17 b18 b19 b20 b21 b22 b23 b24 b25 b26 b27 b28 c1 c2 c3 c4 c5 c6 c7 c8 c9 c10 c11 c12 c13 c14 c15 c16 c17 c18 => mD C hr t H n p i c h2 A k w x ia ib ws ys n25 n27 b5 b7 b8 b15 b16 b17 b18 b19 b20 b21 b22 b23 b24 b25 b26 b27 b28 c1 c2 c3 c4 c5 c6 c7 c8 c9 c10 c11 c12 c13 c14 c15 c16 c17 c18) t H n p i c h ia ib ws ys a1 a5 a7 a8 s hh hu' td hl) p i _ _ _ _ _ (by simp) (by simp) (by simp) (by simp) (by simp) (by simp) (by simp) st rfl rfl (Nat.le_refl _))
end Go.Proofs.Ytfflojbgikfbmaa.Hea
