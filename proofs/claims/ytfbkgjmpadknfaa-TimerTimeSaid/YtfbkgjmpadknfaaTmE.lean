/-
  The statement TimerTime.
-/
import Derived.Test.YtfbkgjmpadknfaaTmD
namespace Go.Proofs.Ytfbkgjmpadknfaa.Tim
open Go.Proofs.YtfbkgjmpadknfaaW.Ah
set_option maxRecDepth 4000
set_option linter.unusedVariables false
set_option linter.unusedSimpArgs false
attribute [local simp] T.t2 T.t3 T.t4 T.t22 T.t23 T.t28 T.t89 T.t90 T.t92 T.t148 Op.maxDepth List.range List.range.loop
attribute [-simp] appendAV cellsOf cellOk partOk
attribute [local simp] cellsOf_sc cellOk_sc partOk_sc cellsOf_own cellOk_own partOk_own cellsOf_osl cellOk_osl partOk_osl cellsOf_sh cellOk_sh partOk_sh cellsOf_ssl cellOk_ssl partOk_ssl cellsOf_esl cellOk_esl partOk_esl cellsOf_fn cellOk_fn partOk_fn cellsOf_omap cellOk_omap partOk_omap cellsOf_agg partOk_agg cellsOf_slv cellOk_slv partOk_slv

theorem takeNo {H : Mem} {n p : Nat} {s : Tm} {ia : Option Nat} (h : St H n p s ia) {x : Ti} {l : List Ti} (hx : s.ts = x :: l) (hle : ¬ x.1 ≤ s.now) :
    RunQ Try.prog T.T 43 [.own p 0] H n (fun r H' n' => r = .tup [.agg (eT dT), B false] ∧ n ≤ n' ∧ ∀ j, j < n → H' j = H j) := by
  refine RunQ.ev 999 Try.func43 rfl rfl rfl rfl rfl fun C hr hn => ?_
  simp
  have hd := due (h.far (H' := upd H n (some (.cells [.sc (.int .i64 0), .sc (.int .i64 0), .sc (.int .i64 0)] 28))) (n' := n + 1) (by omega) (fun j hj => upd_ne _ _ (by omega)))
  refine Stk.callS 999 hd rfl rfl rfl (by simp) ?_
  rintro v H1 n1 ⟨hv, g1, g2⟩
  rw [hx] at hv
  simp [hle] at hv
  subst hv
  have h1n : H1 n = some (.cells [.sc (.int .i64 0), .sc (.int .i64 0), .sc (.int .i64 0)] 28) := by rw [g2 n (by omega), upd_same]
  simp [h1n, partOf, show n ≠ n1 by omega]
  exact hr _ _ _ (.tup [.agg (eT dT), B false]) (by simp [partOf, dT, show n ≠ n1 by omega]) ⟨rfl, by omega, fun j hj => by rw [upd_ne _ _ (by omega), upd_ne _ _ (by omega), upd_ne _ _ (by omega), g2 j (by omega), upd_ne _ _ (by omega)]⟩

theorem awake : RunF Try.prog T.T 17 [] (B true) := by
  refine RunF.ev 999 Try.func17 rfl rfl rfl rfl rfl fun C hr hn => ?_
  simp
  refine Stk.callS 999 (new _ _ 3 (by decide)) rfl rfl rfl (by simp) ?_
  rintro v H1 n1 ⟨p, rfl, _, _, _, st⟩
  simp
  refine Stk.callS 999 (arm st 5 1 (by decide) (by decide) (by decide)) rfl rfl rfl (by simp) ?_
  rintro v H2 n2 ⟨rfl, ia, st⟩
  replace st := st.st
  have e1 : upL ([] : List Ti).length ([] ++ [(later 0 5, ((0 : Nat) : Int) + 1, 1)]) ([] : List Ti).length = [(5, 1, 1)] := by decide
  simp only [e1] at st
  simp
  refine Stk.callS 999 (arm st 3 2 (by decide) (by decide) (by decide)) rfl rfl rfl (by simp) ?_
  rintro v H2 n2 ⟨rfl, ia2, st⟩
  replace st := st.st
  have e2 : upL ([(5, 1, 1)] : List Ti).length ([(5, 1, 1)] ++ [(later 0 3, ((0 + 1 : Nat) : Int) + 1, 2)]) ([(5, 1, 1)] : List Ti).length = [(3, 2, 2), (5, 1, 1)] := by decide
  simp only [e2] at st
  simp
  refine Stk.callS 999 (arm st 3 3 (by decide) (by decide) (by decide)) rfl rfl rfl (by simp) ?_
  rintro v H2 n2 ⟨rfl, ia3, st⟩
  replace st := st.st
  have e3 : upL ([(3, 2, 2), (5, 1, 1)] : List Ti).length ([(3, 2, 2), (5, 1, 1)] ++ [(later 0 3, ((0 + 1 + 1 : Nat) : Int) + 1, 3)]) ([(3, 2, 2), (5, 1, 1)] : List Ti).length = [(3, 2, 2), (5, 1, 1), (3, 3, 3)] := by decide
  simp only [e3] at st
  simp
  refine Stk.callS 999 (tick st 4 (by decide)) rfl rfl rfl (by simp) ?_
  rintro v H2 n2 ⟨rfl, st⟩
  replace st := st.st
  have e4 : later 0 4 = 4 := by decide
  simp only [e4] at st
  simp
  refine Stk.callS 999 (take st rfl (by decide)) rfl rfl rfl (by simp) ?_
  rintro v H2 n2 ⟨rfl, st⟩
  replace st := st.st
  have e5 : cutL ([(3, 2, 2), (5, 1, 1), (3, 3, 3)] : List Ti) = [(3, 3, 3), (5, 1, 1)] := by decide
  simp only [e5] at st
  have st' := st.far (H' := upd (upd H2 n2 (some (.cells [.sc (.int .i64 0), .sc (.int .i64 0), .sc (.int .i64 0)] 28))) n2 (some (.cells [I 3, I 2, I 2] 28))) (n' := n2 + 1) (by omega) (fun j hj => by rw [upd_ne _ _ (by omega), upd_ne _ _ (by omega)])
  simp
  refine Stk.callS 999 (take st' rfl (by decide)) rfl rfl rfl (by simp) ?_
  rintro v H3 n3 ⟨rfl, st2⟩
  have le3 := st2.le
  have h3 : H3 n2 = some (.cells [I 3, I 2, I 2] 28) := by rw [st2.keep n2 (by omega) (by have := st.lp; omega) (fun e => by have := (st.la _ e).1; omega), upd_same]
  replace st2 := st2.st
  have e6 : cutL ([(3, 3, 3), (5, 1, 1)] : List Ti) = [(5, 1, 1)] := by decide
  simp only [e6] at st2
  have st3 := st2.far (H' := upd (upd H3 n3 (some (.cells [.sc (.int .i64 0), .sc (.int .i64 0), .sc (.int .i64 0)] 28))) n3 (some (.cells [I 3, I 3, I 3] 28))) (n' := n3 + 1) (by omega) (fun j hj => by rw [upd_ne _ _ (by omega), upd_ne _ _ (by omega)])
  simp
  refine Stk.callS 999 (takeNo st3 rfl (by decide)) rfl rfl rfl (by simp) ?_
  rintro v H4 n4 ⟨rfl, g1, g2⟩
  have h4a : H4 n2 = some (.cells [I 3, I 2, I 2] 28) := by rw [g2 n2 (by omega), upd_ne _ _ (by omega), upd_ne _ _ (by omega), h3]
  have h4b : H4 n3 = some (.cells [I 3, I 3, I 3] 28) := by rw [g2 n3 (by omega), upd_same]
  simp [h4a, h4b, partOf, show n2 ≠ n4 by omega, show n3 ≠ n4 by omega]
  exact hr _ _ _ (by simp)

theorem St.apart {H H' : Mem} {n n' q : Nat} {s : Tm} (h : St H n q s none) (hn : n ≤ n') (hk : H' q = H q) : St H' n' q s none :=
  ⟨by rw [hk, h.hp], h.ha, by have := h.lp; omega, fun i e => (by cases e), h.ok⟩

theorem half (a : Int) (h : a < 9223372036854775808) : ∃ A : Int, 0 ≤ A ∧ A ≤ 4611686018427387903 ∧ IntKind.i64.wrap ((if a < 0 then 0 else a).tdiv 2) = A := by
  by_cases h0 : a < 0
  · exact ⟨0, by omega, by omega, by rw [if_pos h0]; decide⟩
  · have e : a.tdiv 2 = a / 2 := Int.tdiv_eq_ediv_of_nonneg (by omega)
    exact ⟨a / 2, by omega, by omega, by rw [if_neg h0, e, wrap64_id (by omega) (by omega)]⟩

theorem time (a b d : Int) (ha : a < 9223372036854775808) (hb : b < 9223372036854775808) (hd : d < 9223372036854775808) (hd' : -9223372036854775808 ≤ d) : RunF Try.prog T.T 3 [I a, I b, I d] (B true) := by
  refine RunF.ev 999 Try.func3 rfl rfl rfl rfl rfl fun C hr hn => ?_
  simp
  refine Stk.callS 999 (new _ _ 2 (by decide)) rfl rfl rfl (by simp) ?_
  rintro v H1 n1 ⟨p, rfl, _, hp1, _, st⟩
  simp
  refine Stk.callS 999 (new _ _ 2 (by decide)) rfl rfl rfl (by simp) ?_
  rintro v H2 n2 ⟨q, rfl, hq, hq2, hk2, su⟩
  replace st : St H2 n2 p _ none := st.far (by omega) hk2
  have hpq : q ≠ p := by omega
  simp
  obtain ⟨A, A0, A1, hA⟩ := half a ha
  obtain ⟨B', B0, B1, hB⟩ := half b hb
  obtain ⟨W, hW⟩ : ∃ W : Int, W = if 4611686018427387903 < A + B' then 4611686018427387903 else A + B' := ⟨_, rfl⟩
  have f1 : later 0 A = A := by unfold later MC; split <;> omega
  have f2 : later A B' = W := by rw [hW]; unfold later MC; split <;> split <;> omega
  have f3 : later 0 (A + B') = W := by rw [hW]; unfold later MC; split <;> split <;> omega
  have W1 : 0 ≤ W ∧ W ≤ 4611686018427387903 := by rw [hW]; split <;> omega
  have f4 : later W (-1) = W := by unfold later MC; split <;> omega
  have f5 : IntKind.i64.wrap (A + B') = A + B' := wrap64_id (by omega) (by omega)
  have f6 : (if 4611686018427387903 < A then 4611686018427387903 else A) = A := if_neg (by omega)
  obtain ⟨X, hX⟩ : ∃ X, X = later A d := ⟨_, rfl⟩
  have X1 : A ≤ X ∧ X ≤ 4611686018427387903 := by rw [hX]; unfold later MC; split <;> omega
  have X2 : d ≤ 0 → X = A := by intro h; rw [hX]; unfold later MC; split <;> omega
  have X3 : 0 < d → X ≠ 4611686018427387903 → X - A = d := by intro h h2; rw [hX] at h2 ⊢; unfold later MC at *; split at h2 <;> split <;> omega
  have f7 : IntKind.i64.wrap (X - A) = X - A := wrap64_id (by omega) (by omega)
  refine Stk.callS 999 (tick st A (by omega)) rfl rfl rfl (by simp [hA]) ?_
  rintro v H3 n3 ⟨rfl, st3⟩
  rw [f1] at st3
  have su3 := su.apart st3.le (st3.keep q (by omega) hpq (by simp))
  replace st3 := st3.st
  simp [hA, hB, f5]
  refine Stk.callS 999 (arm st3 d 7 hd (by simp) (by simp)) rfl rfl rfl (by simp) ?_
  rintro v H4 n4 ⟨rfl, ia, st4⟩
  have e1 : upL ([] : List Ti).length ([] ++ [(later A d, ((0 : Nat) : Int) + 1, 7)]) ([] : List Ti).length = [(X, 1, 7)] := by rw [← hX]; rfl
  simp only [e1] at st4
  have hqa : ia ≠ some q := fun e => by
    rcases st4.fa q e with h | h
    · cases h
    · have := su3.lp; omega
  have su4 := su3.apart st4.le (st4.keep q su3.lp hpq (by simp))
  replace st4 := st4.st
  obtain ⟨H5, hH5⟩ : ∃ H5 : Mem, H5 = upd (upd H4 n4 (some (.cells [.sc (.int .i64 0), .sc (.int .i64 0), .sc (.int .i64 0)] 28))) n4 (some (.cells [I X, I 1, I 7] 28)) := ⟨_, rfl⟩
  have st5 : St H5 (n4 + 1) p _ ia := st4.far (by omega) (fun j hj => by rw [hH5, upd_ne _ _ (by omega), upd_ne _ _ (by omega)])
  have su5 : St H5 (n4 + 1) q _ none := su4.far (by omega) (fun j hj => by rw [hH5, upd_ne _ _ (by omega), upd_ne _ _ (by omega)])
  have h5 : H5 n4 = some (.cells [I X, I 1, I 7] 28) := by rw [hH5, upd_same]
  simp [hA, hB, f5, ← hX]
  rw [← hH5]
  have hpn4 := st4.lp
  have hqn4 := su4.lp
  have hian4 := fun i (e : ia = some i) => (st4.la i e).1
  refine Stk.callS 999 (tick st5 B' (by omega)) rfl rfl rfl (by simp [hB]) ?_
  rintro v H6 n6 ⟨rfl, st6⟩
  simp only [f2] at st6
  have su6 := su5.apart st6.le (st6.keep q (by omega) hpq hqa)
  have h6 : H6 n4 = some (.cells [I X, I 1, I 7] 28) := by rw [st6.keep n4 (by omega) (by omega) (fun e => by have := hian4 _ e; omega), h5]
  have l6 := st6.le
  replace st6 := st6.st
  simp [hA, hB, f5]
  refine Stk.callS 999 (tick su6 (A + B') (by omega)) rfl rfl rfl (by simp [hA, hB, f5]) ?_
  rintro v H7 n7 ⟨rfl, su7⟩
  simp only [f3] at su7
  have st7 : St H7 n7 p _ ia := ⟨by rw [su7.keep p st6.lp (Ne.symm hpq) (by simp)]; exact st6.hp, st6.ha.mono fun i hi => su7.keep i (st6.la i hi).1 (fun e => hqa (by rw [hi, e])) (by simp), by have := su7.le; have := st6.lp; omega, fun i hi => ⟨by have := su7.le; have := (st6.la i hi).1; omega, (st6.la i hi).2⟩, st6.ok⟩
  have h7 : H7 n4 = some (.cells [I X, I 1, I 7] 28) := by rw [su7.keep n4 (by omega) (by omega) (by simp), h6]
  have l7 := su7.le
  replace su7 := su7.st
  simp [hA, hB, f5]
  refine Stk.callS 999 (tick st7 (-1) (by omega)) rfl rfl rfl (by simp) ?_
  rintro v H8 n8 ⟨rfl, st8⟩
  simp only [f4] at st8
  have su8 := su7.apart st8.le (st8.keep q (by omega) hpq hqa)
  have h8 : H8 n4 = some (.cells [I X, I 1, I 7] 28) := by rw [st8.keep n4 (by omega) (by omega) (fun e => by have := hian4 _ e; omega), h7]
  have l8 := st8.le
  replace st8 := st8.st
  simp [hA, hB, f5, ← hW]
  have hdue := due st8
  simp only at hdue
  refine Stk.callS 8 hdue rfl rfl rfl (by simp) ?_
  rintro v H9 n9 ⟨hv, g1, g2⟩
  have st9 := st8.far g1 g2
  have su9 := su8.far g1 g2
  have h9 : H9 n4 = some (.cells [I X, I 1, I 7] 28) := by rw [g2 n4 (by omega), h8]
  have hv2 : v = .tup [.agg (eT (if X ≤ W then (X, 1, 7) else dT)), B (decide (X ≤ W))] := by
    by_cases hXW : X ≤ W
    · simp [hXW] at hv ⊢; exact hv
    · simp [hXW] at hv ⊢; exact hv
  rw [hv2]
  clear hv hv2
  obtain ⟨y, hy⟩ : ∃ y : Ti, y = if X ≤ W then (X, 1, 7) else dT := ⟨_, rfl⟩
  rw [← hy]
  simp
  obtain ⟨H10, hH10⟩ : ∃ H10 : Mem, H10 = upd (upd H9 n9 (some (.cells [.sc (.int .i64 0), .sc (.int .i64 0), .sc (.int .i64 0)] 28))) n9 (some (.cells (eT y) 28)) := ⟨_, rfl⟩
  have st10 : St H10 (n9 + 1) p _ ia := st9.far (by omega) (fun j hj => by rw [hH10, upd_ne _ _ (by omega), upd_ne _ _ (by omega)])
  have su10 : St H10 (n9 + 1) q _ none := su9.far (by omega) (fun j hj => by rw [hH10, upd_ne _ _ (by omega), upd_ne _ _ (by omega)])
  have h10 : H10 n4 = some (.cells [I X, I 1, I 7] 28) := by rw [hH10, upd_ne _ _ (by omega), upd_ne _ _ (by omega), h9]
  rw [← hH10]
  have hnow := now st10
  have hnow2 := now su10
  simp only at hnow hnow2
  (refine evS_sound (f := 6) ?_; simp)
  refine Stk.callS 6 hnow rfl rfl rfl (by simp) ?_
  rintro v H' n' ⟨rfl, rfl, rfl⟩
  simp
  (refine evS_sound (f := 6) ?_; simp)
  refine Stk.callS 3 hnow2 rfl rfl rfl (by simp) ?_
  rintro v H' n' ⟨rfl, rfl, rfl⟩
  simp [h10, partOf]
  by_cases hd0 : 0 < d
  · have hd1 : ¬ d ≤ 0 := by omega
    by_cases hXM : X = 4611686018427387903
    · have hXb : (X == 4611686018427387903) = true := by simp [hXM]
      iterate 12 (refine evS_sound (f := 6) ?_; simp [h10, partOf, f6, X1.1, f7, hd0, hd1, hXb])
      refine Stk.callF 99 awake rfl rfl rfl (by simp) rfl rfl ?_
      simp
      exact hr _ _ _ (by simp)
    · have hXb : (X == 4611686018427387903) = false := by simp [hXM]
      have hX3 : (X - A == d) = true := by simp [X3 hd0 hXM]
      iterate 12 (refine evS_sound (f := 6) ?_; simp [h10, partOf, f6, X1.1, f7, hd0, hd1, hXb, hX3])
      refine Stk.callF 99 awake rfl rfl rfl (by simp) rfl rfl ?_
      simp
      exact hr _ _ _ (by simp)
  · have hd1 : d ≤ 0 := by omega
    have hXA : (X == A) = true := by simp [X2 hd1]
    iterate 12 (refine evS_sound (f := 6) ?_; simp [h10, partOf, f6, X1.1, f7, hd0, hd1, hXA])
    refine Stk.callF 99 awake rfl rfl rfl (by simp) rfl rfl ?_
    simp
    exact hr _ _ _ (by simp)
end Go.Proofs.Ytfbkgjmpadknfaa.Tim
