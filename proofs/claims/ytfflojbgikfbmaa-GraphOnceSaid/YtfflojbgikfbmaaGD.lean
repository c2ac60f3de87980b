/-
  The walker's begin, and going through all that is reached.
-/
import Derived.Test.YtfflojbgikfbmaaGC
namespace Go.Proofs.Ytfflojbgikfbmaa.Gra
open Go.Proofs.YtfflojbgikfbmaaW.Ah
open M (api_Node api_Edge c3 c31 c37 Seen okB stepE reachGo findN)
set_option maxRecDepth 4000
set_option linter.unusedVariables false
set_option linter.unusedSimpArgs false
attribute [local simp] T.t2 T.t3 T.t4 T.t5 T.t22 T.t23 T.t26 T.t31 T.t34 T.t35 T.t37 T.t119 T.t124 T.t203 T.t138 T.t198 T.t200 Op.maxDepth List.range List.range.loop
attribute [-simp] appendAV cellsOf cellOk partOk
attribute [local simp] cellsOf_sc cellOk_sc partOk_sc cellsOf_own cellOk_own partOk_own cellsOf_osl cellOk_osl partOk_osl cellsOf_sh cellOk_sh partOk_sh cellsOf_ssl cellOk_ssl partOk_ssl cellsOf_esl cellOk_esl partOk_esl cellsOf_fn cellOk_fn partOk_fn cellsOf_omap cellOk_omap partOk_omap cellsOf_agg partOk_agg cellsOf_slv cellOk_slv partOk_slv

theorem begun (H : Mem) (n : Nat) : RunQ Try.prog T.T 76 [] H n (fun r H' n' => ∃ p m, r = .own p 0 ∧ n ≤ p ∧ n ≤ m ∧ Calm H n H' n' ∧ Wk H' n' p m none []) := by
  refine RunQ.ev 99 Try.func76 rfl rfl rfl rfl rfl fun C hr hn => ?_
  simp [partOf, splice]
  refine hr _ _ _ (.own (n + 1) 0) (by simp) ⟨n + 1, n, rfl, by omega, Nat.le_refl _, ⟨by omega, fun j hj => by simp [show ¬ j = n by omega, show ¬ j = n + 1 by omega]⟩, ⟨by simp, by simp [ents], rfl, by omega, by omega, fun i e => (by cases e), by omega, fun i e => (by cases e)⟩⟩

theorem all (H : Mem) (n p : Nat) : RunQ Try.prog T.T 78 [.own p 0] H n (fun r H' n' => r = .fn (.func 138) [] [.own n 0] ∧ H' = upd H n (some (.cells [.own p 0] 119)) ∧ n' = n + 1) := by
  refine RunQ.ev 99 Try.func78 rfl rfl rfl rfl rfl fun C hr hn => ?_
  simp [partOf, splice]
  exact hr _ _ _ (.fn (.func 138) [] [.own n 0]) (by simp) ⟨rfl, rfl, rfl⟩

/-- Going through all, round by round. -/
theorem allQ {b p m y : Nat} (N : Nat) (hN : N ≤ 60000) (Inv : Nat → List Int → Option Nat → Mem → Nat → Prop) (Stop : Mem → Nat → Prop)
    (hi : ∀ i seen o H n, Inv i seen o H n → H b = some (.cells [.own p 0] 119) ∧ Wk H n p m o seen ∧ seen.length ≤ N ∧ i ≤ seen.length ∧
      ∀ k, seen[i]? = some k → ∃ t0 k0 ps asg bod, H y = some (.loop t0 k0 ps asg bod .ready) ∧ ps.size = 1 ∧ ps.toList.all (fun q => decide (q < k0)) = true ∧
        Round Try.prog T.T k0 t0 ps asg bod y [I k] H n (fun c H' n' => if c = true then ∃ seen' o', Inv (i + 1) seen' o' H' n' else Stop H' n'))
    {H : Mem} {n : Nat} {seen : List Int} {o : Option Nat} (h0 : Inv 0 seen o H n) :
    RunQ Try.prog T.T 138 [.yld y, .own b 0] H n (fun r H' n' => (∃ seen o, Inv seen.length seen o H' n') ∨ Stop H' n') := by
  refine RunQ.ev 9 Try.func138 rfl rfl rfl rfl rfl fun C hr hn => ?_
  simp
  iterate 3 (try (refine evS_sound (f := 8) ?_; simp))
  refine Stk.loop 9 (fun μ t H2 n2 => ∃ i seen o, Inv i seen o H2 n2 ∧ μ = N - i ∧ t 0 = .yld y ∧ t 1 = .own b 0 ∧ t 3 = I i) N ⟨0, seen, o, h0, rfl, by simp, by simp, by simp⟩ ?_
  rintro J hJ μ t H2 n2 ⟨i, seen, o, hinv, rfl, t0, t1, t3⟩
  obtain ⟨hb, wk, hl, hil, hrd⟩ := hi i seen o H2 n2 hinv
  have hp := wk.hp
  have hlen : ∃ st, slv o seen.length = st := ⟨_, rfl⟩
  by_cases hlt : i < seen.length
  · have hlti : (i : Int) < seen.length := by omega
    obtain ⟨b2, ho⟩ : ∃ b2, o = some b2 := by
      cases o with
      | none => have := wk.ho; simp only [YtfflojbgikfbmaaW.Ah.Own] at this; subst this; simp at hlt
      | some b2 => exact ⟨b2, rfl⟩
    subst ho
    obtain ⟨ys, hown⟩ := wk.ho
    have hget : seen[i]? = some seen[i] := List.getElem?_eq_getElem hlt
    obtain ⟨tl, k0, ps, asg, bod, hy, hps, hpk, hround⟩ := hrd seen[i] hget
    have hld : partOf T.T 3 (encs c3 seen ++ ys) i = some (I seen[i]) := by
      have e : (encs c3 seen ++ ys)[i]? = some (I seen[i]) := by
        have := cell_own (e := c3) (z := 1) seen ys i 0 hlt (by omega)
        simpa using this
      simp [partOf, e]
    have wi := wrap_succ i (by omega)
    simp at hp
    simp [t0, t1, t3, hb, hp, hlt, hlti]
    iterate 8 (try (refine evS_sound (f := 4) ?_; simp [t0, t1, t3, hb, hp, hown, hlt, hlti, hld]))
    refine Stk.round rfl rfl (by simp) hy hps hpk (by simpa using hround) ?_
    intro c H3 n3 hW
    cases c with
    | true =>
      obtain ⟨seen', o', hinv'⟩ := hW
      refine evS_sound (f := 8) ?_
      simp [t3, wi]
      iterate 4 (try (refine evS_sound (f := 4) ?_; simp [t3, wi]))
      exact ⟨N - (i + 1), by omega, hJ _ _ _ _ ⟨i + 1, seen', o', hinv', rfl, by simp [t0], by simp [t1], by simp⟩⟩
    | false =>
      refine evS_sound (f := 8) ?_
      simp
      iterate 4 (try (refine evS_sound (f := 4) ?_; simp))
      exact hr _ _ _ (.tup []) (by simp) (.inr hW)
  · have hie : i = seen.length := by omega
    subst hie
    cases o with
    | none =>
      have h0 : seen = [] := wk.ho
      subst h0
      simp at hp
      simp [t0, t1, t3, hb, hp]
      iterate 4 (try (refine evS_sound (f := 4) ?_; simp [t0, t1, t3, hb, hp]))
      exact hn _ _ _ (.tup []) (by simp) (.inl ⟨_, _, hinv⟩)
    | some b2 =>
      simp at hp
      simp [t0, t1, t3, hb, hp]
      iterate 4 (try (refine evS_sound (f := 4) ?_; simp [t0, t1, t3, hb, hp]))
      exact hn _ _ _ (.tup []) (by simp) (.inl ⟨_, _, hinv⟩)

theorem Stk.rangeX {P : Program} {T : Tab} {k : Nat} {st : List It} {t : Nat → AV} {H : Mem} {n : Nat} {C : Cont} {f : Operand} {ps : Array Nat} {asg bod : Code} {g : FuncId} {first caps : List AV} (hf : ev t f = .fn (.func g) first caps)
    (h : ∀ A B, A = asg → B = bod → ∃ Z : AV → Mem → Nat → Prop, RunQ P T g (first ++ [.yld n] ++ caps) (upd H n (some (.loop t k ps A B .ready))) (n + 1) Z ∧
      ∀ v H' n', Z v H' n' → ((∃ t0 k0 ps0 asg0 bod0, H' n = some (.loop t0 k0 ps0 asg0 bod0 .ready)) ∧ Stk P T k st t (upd H' n none) n' C) ∨ (∃ t0 k0 ps0 asg0 bod0 c, H' n = some (.loop t0 k0 ps0 asg0 bod0 (.done c)) ∧ Stk P T k (.code c :: st) t (upd H' n none) n' C)) : Stk P T k (.code (.rangeFunc f ps asg bod) :: st) t H n C := by
  obtain ⟨Z, ⟨v, H', n', q1, q2⟩, h2⟩ := h asg bod rfl rfl
  rcases h2 v H' n' q2 with ⟨⟨t0, k0, ps0, asg0, bod0, q3⟩, q4⟩ | ⟨t0, k0, ps0, asg0, bod0, c, q3, q4⟩
  · simp only [Stk]
    exact ⟨.normal, ⟨t, upd H' n none, n'⟩, .rangeN hf q1 q3, q4⟩
  · simp only [Stk] at q4 ⊢
    obtain ⟨e, s', q5, q6⟩ := q4
    exact ⟨e, s', .rangeJ hf q1 q3 q5, q6⟩
end Go.Proofs.Ytfflojbgikfbmaa.Gra
