/-
  The statement StackBack, from its begin.
-/
import Derived.Test.YtfflojbgikfbmaaStkK
namespace Go.Proofs.Ytfflojbgikfbmaa.Sta
open Go.Proofs.YtfflojbgikfbmaaW.Ah
set_option maxRecDepth 4000
set_option linter.unusedVariables false
set_option linter.unusedSimpArgs false
attribute [local simp] T.t3 T.t4 T.t5 T.t26 T.t39 T.t40 T.t41 T.t47 T.t49 T.t128 T.t130 T.t132 T.t135 T.t79 Op.maxDepth List.range List.range.loop
attribute [-simp] appendAV cellsOf cellOk partOk
attribute [local simp] cellsOf_sc cellOk_sc partOk_sc cellsOf_own cellOk_own partOk_own cellsOf_osl cellOk_osl partOk_osl cellsOf_sh cellOk_sh partOk_sh cellsOf_ssl cellOk_ssl partOk_ssl cellsOf_esl cellOk_esl partOk_esl cellsOf_fn cellOk_fn partOk_fn cellsOf_omap cellOk_omap partOk_omap cellsOf_agg partOk_agg cellsOf_slv cellOk_slv partOk_slv

/-- What is told behind the function, and the first that is popped. -/
theorem bC (xs : List Int) (a : Nat) (x : Int) (C : Cont) (hC : ∀ t H n, resOf T.T Try.f4.results.toList ⟨t, H, n⟩ = some (B true) → C .ret t H n) (hb : ¬ xs.length > 200) (ha : a < xs.length + 1) (p : Nat) (ia ib : Option Nat) (t : Nat → AV) (H : Mem) (n : Nat)
    (t0 : t 0 = .ssl (encs eU xs) xs.length false) (t2 : t 2 = U x) (t7 : t 7 = .own p 0) (t11 : t 11 = I a) (st : St H n p ⟨xs.take (xs.length - a) ++ [x], [], xs.length + 1, xs.length + 1⟩ ia ib) :
    Stk Try.prog T.T 140 (codes ((seqs body4).drop 11)) t H n C := by
  have hl : (xs.take (xs.length - a) ++ [x]).length = xs.length - a + 1 := by simp
  refine Stk.cut (l' := (seqs body4).drop 17) [_, _, _, _, _, _] rfl fun J hJ => ?_
  refine evS_sound (f := 999) ?_
  simp [codes, t7]
  refine Stk.callS 999 (dump st) rfl rfl rfl (by simp) ?_
  rintro v H3 n3 ⟨o1, c1, o2, rfl, q1, q2, q3, q4, q5, q6⟩
  have st2 := st.far q3 q6
  simp only [hl, List.length_nil] at q2 ⊢
  have hwa : IntKind.i64.wrap ((xs.length : Int) - a) = ((xs.length - a : Nat) : Int) ∨ True := .inr trivial
  have hw := wrap_succ xs.length (by omega)
  have hw1 : IntKind.i64.wrap ((xs.length : Int) - a) = (xs.length : Int) - a := wrap64_id (by omega) (by omega)
  have hw2 : IntKind.i64.wrap ((xs.length : Int) - a + 1) = ((xs.length - a + 1 : Nat) : Int) := by rw [wrap64_id (by omega) (by omega)]; omega
  cases o1 with
  | none => simp [Own] at q1
  | some i =>
    have hbs : Sk.base ⟨xs.take (xs.length - a) ++ [x], [], xs.length + 1, xs.length + 1⟩ = 0 := rfl
    have hgd : (xs.take (xs.length - a) ++ [x]).getD ((xs.take (xs.length - a) ++ [x]).length - 1) 0 = x := by simp
    have hpop : ∀ (H4 : Mem) n4, n3 ≤ n4 → (∀ j, j < n3 → H4 j = H3 j) → _ := fun H4 n4 g1 g2 => pop (st2.far (n' := n4) (H' := H4) g1 g2)
    simp only [hgd, hbs, hl] at hpop
    have e1 : (xs.take (xs.length - a) ++ [x]).take (xs.length - a + 1 - 1) = xs.take (xs.length - a) := by
      rw [Nat.add_sub_cancel]; simp
    simp only [e1] at hpop
    have fin : ∀ (t : Nat → AV) (H : Mem) n, t 0 = .ssl (encs eU xs) xs.length false → t 7 = .own p 0 → t 11 = I a → St H n p ⟨xs.take (xs.length - a), [], xs.length + 1, xs.length + 1⟩ ia ib → J 0 t H n :=
      fun t H n g0 g7 g11 g => hJ _ _ _ (bD xs a x C hC hb ha p ia ib t H n g0 g7 g11 g)
    cases o2 with
    | some j =>
      simp [slc, t0, t2, t7, t11, hw, hw1, hw2]
      refine Stk.callS 8 (hpop _ _ (Nat.le_succ _) (fun j hj => by rw [upd_ne _ _ (by omega), upd_ne _ _ (by omega)])) rfl rfl rfl (by simp) ?_
      rintro v H4 n4 hz
      rw [if_pos (by omega)] at hz
      obtain ⟨rfl, st3⟩ := hz
      simp [t0, t2, t7, t11]
      (refine evS_sound (f := 6) ?_; simp [t0, t2, t7, t11])
      refine evS_sound (f := 99) ?_
      simp [t0, t2, t7, t11]
      refine fin _ _ _ ?_ ?_ ?_ st3.st <;> simp [t0, t7, t11]
    | none =>
      simp [slc, t0, t2, t7, t11, hw, hw1, hw2]
      refine Stk.callS 8 (hpop _ _ (Nat.le_succ _) (fun j hj => by rw [upd_ne _ _ (by omega), upd_ne _ _ (by omega)])) rfl rfl rfl (by simp) ?_
      rintro v H4 n4 hz
      rw [if_pos (by omega)] at hz
      obtain ⟨rfl, st3⟩ := hz
      simp [t0, t2, t7, t11]
      (refine evS_sound (f := 6) ?_; simp [t0, t2, t7, t11])
      refine evS_sound (f := 99) ?_
      simp [t0, t2, t7, t11]
      refine fin _ _ _ ?_ ?_ ?_ st3.st <;> simp [t0, t7, t11]

theorem bB (xs : List Int) (u x : Int) (h1 : 0 ≤ u ∧ u < 256) (C : Cont) (hC : ∀ t H n, resOf T.T Try.f4.results.toList ⟨t, H, n⟩ = some (B true) → C .ret t H n) (hb : ¬ xs.length > 200) (p : Nat) (ia ib : Option Nat) (t : Nat → AV) (H : Mem) (n : Nat)
    (t0 : t 0 = .ssl (encs eU xs) xs.length false) (t1 : t 1 = .sc (.int .u8 u)) (t2 : t 2 = U x) (t7 : t 7 = .own p 0) (st : St H n p ⟨xs, [], xs.length + 1, xs.length⟩ ia ib) :
    Stk Try.prog T.T 140 (codes ((seqs body4).drop 8)) t H n C := by
  obtain ⟨a, ha, ea⟩ := tmod_nat (k := xs.length + 1) h1.1 (by omega)
  have w1 : IntKind.i64.wrap u = u := wrap64_id (by omega) (by omega)
  have hw := wrap_succ xs.length (by omega)
  have hz0 : ((xs.length : Int) + 1 == 0) = false := by simp; omega
  have hbs : Sk.base ⟨xs, [], xs.length + 1, xs.length⟩ = 0 := rfl
  refine Stk.cut (l' := (seqs body4).drop 11) [_, _, _] rfl fun J hJ => ?_
  refine evS_sound (f := 999) ?_
  push_cast at ea
  simp [codes, t0, t1, t2, t7, w1, hw, ea]
  refine Stk.callS 8 (enter st 3 a) rfl rfl rfl (by simp [t7]) ?_
  rintro v H2 n2 hz
  rw [if_pos (by rw [hbs]; simp; omega)] at hz
  obtain ⟨rfl, ia, ib, st⟩ := hz
  replace st := st.st
  simp at st
  simp [t7, t2]
  (refine evS_sound (f := 6) ?_; simp [t7, t2])
  refine Stk.callS 8 (push st x) rfl rfl rfl (by simp [t7, t2]) ?_
  rintro v H2 n2 hz
  rw [if_pos (by simp)] at hz
  obtain ⟨rfl, ia, ib, st⟩ := hz
  replace st := st.st
  simp at st
  simp [t7, t2]
  (refine evS_sound (f := 6) ?_; simp [t7, t2])
  refine Stk.callS 8 (push st x) rfl rfl rfl (by simp [t7, t2]) ?_
  rintro v H2 n2 hz
  rw [if_neg (by simp)] at hz
  obtain ⟨rfl, rfl, rfl⟩ := hz
  simp [t7, t2]
  (refine evS_sound (f := 6) ?_; simp [t7, t2])
  have hbs2 : Sk.base ⟨xs ++ [x], [(3, 0, xs.length - a)], xs.length + 1, xs.length + 1⟩ = xs.length - a := rfl
  refine Stk.callS 8 (leave st) rfl rfl rfl (by simp [t7, t2]) ?_
  rintro v H2 n2 hz
  rw [if_pos (by rw [hbs2]; simp; omega)] at hz
  obtain ⟨rfl, ia, ib, st⟩ := hz
  replace st := st.st
  rw [hbs2] at st
  have e1 : (xs ++ [x]).take (xs.length - a) = xs.take (xs.length - a) := List.take_append_of_le_length (by omega)
  simp [e1] at st
  simp [t7, t2]
  exact hJ _ _ _ (bC xs a x C hC hb ha p ia ib _ _ _ (by simp [t0]) (by simp [t2]) (by simp [t7]) (by simp) st)

theorem back (xs : List Int) (u x : Int) (h1 : 0 ≤ u ∧ u < 256) :
    RunF Try.prog T.T 4 [.ssl (encs eU xs) xs.length false, .sc (.int .u8 u), U x] (B true) := by
  refine RunF.parts (c := body4) Try.func4 (by rfl) rfl rfl rfl rfl fun C hr hn => ?_
  refine Stk.cut (l' := (seqs body4).drop 8) [_, _, _, _, _, _, _, _] rfl fun J0 hJ0 => ?_
  refine evS_sound (f := 999) ?_
  by_cases hb : xs.length > 200
  · have hb' : (200 : Int) < xs.length := by omega
    have hb2 : decide ((200 : Int) < xs.length) = true := by simpa using hb'
    simp [codes, hb2]

    refine Stk.callF 999 awake rfl rfl rfl (by simp) rfl rfl ?_
    simp
    exact hr _ _ _ (by simp)
  have hb' : ¬ (200 : Int) < xs.length := by omega
  have hw := wrap_succ xs.length (by omega)
  simp [codes, hb', hw]
  refine Stk.callS 999 (new _ _ (xs.length + 1 : Nat) (by omega) (by omega)) rfl rfl rfl (by simp) ?_
  rintro v H1 n1 ⟨p, rfl, _, _, _, st⟩
  simp only [Int.toNat_natCast] at st
  simp
  refine Stk.loop 999 (fun μ t H n => ∃ m ia ib, m ≤ xs.length ∧ μ = xs.length - m ∧ t 0 = .ssl (encs eU xs) xs.length false ∧ t 1 = .sc (.int .u8 u) ∧ t 2 = U x ∧ t 7 = .own p 0 ∧ t 31 = .ssl (encs eU xs) xs.length false ∧ t 32 = I xs.length ∧ t 33 = I m ∧ St H n p ⟨xs.take m, [], xs.length + 1, m⟩ ia ib) xs.length ?_ ?_
  · exact ⟨0, none, none, Nat.zero_le _, rfl, by simp, by simp, by simp, by simp, by simp, by simp, by simp, by simpa using st⟩
  clear st
  rintro J hJ μ t H n ⟨m, ia, ib, hm, rfl, t0, t1, t2, t7, t31, t32, t33, st⟩
  simp [t0, t1, t2, t7, t31, t32, t33]
  refine ⟨fun hlt => ?_, fun hge => ?_⟩
  · have hld := load_u xs m hlt
    simp [t0, t1, t2, t7, t31, t32, t33, hlt, hld]
    refine Stk.callS 999 (push st xs[m]) rfl rfl rfl (by simp) ?_
    rintro v H2 n2 hz
    rw [if_pos (by simp; omega)] at hz
    obtain ⟨rfl, ia', ib', st'⟩ := hz
    replace st' := st'.st
    have e1 : (xs.take m).length = m := by simp; omega
    simp only [e1, show max m (m + 1) = m + 1 by omega] at st'
    rw [← List.take_succ_eq_append_getElem hlt] at st'
    have hw := wrap_succ m (by omega)
    simp [t33, hw]
    exact ⟨xs.length - (m + 1), by omega, hJ _ _ _ _ ⟨m + 1, ia', ib', by omega, rfl, by simp [t0], by simp [t1], by simp [t2], by simp [t7], by simp [t31], by simp [t32], by simp, st'⟩⟩
  have : m = xs.length := by omega
  subst this
  rw [List.take_length] at st
  exact hJ0 _ _ _ (bB xs u x h1 C hr hb p ia ib _ _ _ (by simp [t0]) (by simp [t1]) (by simp [t2]) (by simp [t7]) st)
end Go.Proofs.Ytfflojbgikfbmaa.Sta
