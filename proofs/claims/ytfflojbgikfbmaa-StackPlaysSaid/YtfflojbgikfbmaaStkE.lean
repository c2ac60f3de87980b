/-
  The stack's Dump.
-/
import Derived.Test.YtfflojbgikfbmaaStkD
namespace Go.Proofs.Ytfflojbgikfbmaa.Sta
open Go.Proofs.YtfflojbgikfbmaaW.Ah
set_option maxRecDepth 4000
set_option linter.unusedVariables false
set_option linter.unusedSimpArgs false
attribute [local simp] T.t3 T.t4 T.t26 T.t39 T.t40 T.t41 T.t47 T.t49 T.t128 T.t130 T.t132 T.t135 T.t79 Op.maxDepth List.range List.range.loop
attribute [-simp] appendAV cellsOf cellOk partOk
attribute [local simp] cellsOf_sc cellOk_sc partOk_sc cellsOf_own cellOk_own partOk_own cellsOf_osl cellOk_osl partOk_osl cellsOf_sh cellOk_sh partOk_sh cellsOf_ssl cellOk_ssl partOk_ssl cellsOf_esl cellOk_esl partOk_esl cellsOf_fn cellOk_fn partOk_fn cellsOf_omap cellOk_omap partOk_omap cellsOf_agg partOk_agg cellsOf_slv cellOk_slv partOk_slv

theorem dump {H : Mem} {n p : Nat} {s : Sk} {ia ib : Option Nat} (h : St H n p s ia ib) :
    RunQ Try.prog T.T 24 [.own p 0] H n (fun r H' n' => ∃ o1 c1 o2, r = .agg [slc o1 s.slots.length c1, slv o2 s.frames.length, I s.peak] ∧ Own H' 40 eU o1 s.slots ∧ Own H' 79 eF o2 s.frames ∧ n ≤ n' ∧ (∀ i, o1 = some i → n ≤ i ∧ i < n') ∧ (∀ i, o2 = some i → n ≤ i ∧ i < n') ∧ ∀ j, j < n → H' j = H j) := by
  have hp := h.hp
  have hlp := h.lp
  have hok := h.ok
  have hlp1 : p < n + 1 := by omega
  have hpn : ¬ p = n := by omega
  have hpn' : ¬ n = p := by omega
  refine RunQ.ev 999 Try.func24 rfl rfl rfl rfl rfl fun C hr hn => ?_
  simp
  refine Stk.regionD 999 [.rd [], .rd [], .rd [], .rd [p], .mem [] (n + 1), .rd [], .rd [], .rd [], .rd [p], .rd [], .mem [] (n + 1), .mem [] (n + 1)] (some 10) (by kernel_rfl) (by rfl) (by rfl) (by simp [below, *]) rfl ?_
  simp [hp, hpn]
  refine Stk.callSD 999 rfl ?_ (clone (H := upd H n (some (.cells [.sc (.slice none 0 0), .sc (.slice none 0 0), I 0] 49))) (n := n + 1) (h.ha.mono fun i hi => upd_ne _ _ (by have := (h.la i hi).1; omega)) (fun i hi => by have := (h.la i hi).1; omega) (by have := hok.slots; have := hok.most; omega)) rfl rfl rfl rfl (by simp) ?_
  · rintro v H' n' ⟨o', c, rfl, q1, q2, q3, q4⟩ j hj _
    exact q4 j hj
  · rintro v H1 n1 ⟨o1, c1, rfl, q1, q2, q3, q4⟩
    have hp1 : H1 p = H p := by rw [q4 p (by omega), upd_ne _ _ (by omega)]
    have hp1' := hp1.trans hp
    have hpn1 : ¬ p = n1 := by omega
    have hnn1 : ¬ n = n1 := by omega
    have hnn1' : ¬ n1 = n := by omega
    have hH1n : H1 n = some (.cells [.sc (.slice none 0 0), .sc (.slice none 0 0), I 0] 49) := by rw [q4 n (by omega), upd_same]
    obtain ⟨x, hx⟩ : ∃ x, x = slc o1 s.slots.length c1 := ⟨_, rfl⟩
    have hcx : cellsOf x = [x] := by subst hx; cases o1 <;> rfl
    have hox : cellOk x = true := by subst hx; cases o1 <;> rfl
    have hpx : partOk x = true := by subst hx; cases o1 <;> rfl
    rw [← hx]
    have fin : ∀ (t : Nat → AV) (H2 : Mem) n2 o2, t 2 = .own n 0 → H2 n = some (.cells [x, slv o2 s.frames.length, I s.peak] 49) → (∀ j, j < n1 → j ≠ n → H2 j = H1 j) → Own H2 79 eF o2 s.frames → n1 ≤ n2 → (∀ i, o2 = some i → n ≤ i ∧ i < n2) → C .ret t H2 n2 := by
      intro t H2 n2 o2 e1 e2 e3 e4 e5 e6
      refine hr _ _ _ (.agg [x, slv o2 s.frames.length, I s.peak]) (by simp [e1, e2]) ⟨o1, c1, o2, by rw [hx], q1.mono fun i hi => e3 i (q3 i hi).2 (by have := (q3 i hi).1; omega), e4, by omega, fun i hi => by have := q3 i hi; omega, e6, fun j hj => ?_⟩
      rw [e3 j (by omega) (by omega), q4 j (by omega), upd_ne _ _ (by omega)]
    cases ib with
    | none =>
      have hf0 : s.frames = [] := h.hb
      simp [hp1', hpn1, hcx, hox, hpx]
      refine ⟨fun j hj e => absurd e (by omega), fun j hj e => absurd e (by omega), ?_⟩
      refine Stk.loop 999 (fun μ t H n2 => t 2 = .own n 0 ∧ t 3 = .own n1 0 ∧ t 23 = I 0 ∧ t 24 = I 0 ∧ H = upd (upd H1 n1 (some (.cells [.sc (.slice none 0 0), .sc (.slice none 0 0), I 0] 49))) n1 (some (.cells [x, .sc (.slice none 0 0), I s.peak] 49)) ∧ n2 = n1 + 1) 0 ?_ ?_
      · exact ⟨by simp, by simp, by simp, by simp, rfl, rfl⟩
      · rintro J hJ μ t H2 n2 ⟨t2, t3, t23, t24, rfl, rfl⟩
        simp [t2, t3, t23, t24, hnn1, hH1n, hcx, hox, hpx]
        refine fin _ _ _ none (by simp [t2]) (by simp [hf0]) (fun j hj hj' => by simp [hj', show j ≠ n1 by omega]) hf0 (by omega) (fun i h => by cases h)
    | some b =>
      obtain ⟨ys, hb⟩ := h.hb
      have hbn := (h.lb b rfl).1
      simp [hp1', hpn1, hcx, hox, hpx]
      refine ⟨fun j hj e => absurd e (by omega), fun j hj e => absurd e (by omega), ?_⟩
      refine Stk.loop 999 (fun μ t H n2 => ∃ (m : Nat) (o : Option Nat), m ≤ s.frames.length ∧ μ = s.frames.length - m ∧ t 2 = .own n 0 ∧ t 3 = .own n1 0 ∧ t 22 = .osl b 0 s.frames.length none ∧ t 23 = I s.frames.length ∧ t 24 = I m ∧
        H n1 = some (.cells [x, slv o m, I s.peak] 49) ∧ H n = some (.cells [.sc (.slice none 0 0), .sc (.slice none 0 0), I 0] 49) ∧ Own H 79 eF o (s.frames.take m) ∧ n1 < n2 ∧ (∀ i, o = some i → n1 < i ∧ i < n2) ∧ ∀ j, j < n1 → j ≠ n → H j = H1 j) s.frames.length ?_ ?_
      · exact ⟨0, none, Nat.zero_le _, rfl, by simp, by simp, by simp, by simp, by simp, by simp, by simp [hnn1, hH1n], rfl, Nat.lt_succ_self _, fun i h => (by cases h), fun j hj hj' => by simp [show j ≠ n1 by omega]⟩
      · rintro J hJ μ t H2 n2 ⟨m, o, hm, rfl, t2, t3, t22, t23, t24, g1, g2, g3, g4, g5, g6⟩
        simp [t2, t3, t22, t23, t24]
        refine ⟨fun hlt => ?_, fun hge => ?_⟩
        · have hHb : H2 b = some (.cells (encs eF s.frames ++ ys) 132) := by rw [g6 b (by omega) (by omega), q4 b (by omega), upd_ne _ _ (by omega), hb]
          have hpo := part_own (e := eF) (z := 3) T.t132 rfl rfl s.frames ys m hlt
          obtain ⟨f, hf⟩ : ∃ f, f = s.frames[m] := ⟨_, rfl⟩
          rw [← hf] at hpo
          have n12 : ¬ n1 = n2 := by omega
          have n12' : ¬ n1 = n2 + 1 := by omega
          have hlm : (s.frames.take m).length = m := by simp; omega
          obtain ⟨o', H3, n3, e1, e2, e3, e4, e5⟩ := append_own (e := eF) (z := 3) T.t47 rfl T.t79 rfl (by decide) rfl (by decide) (H := upd (upd (upd H2 n2 (some (.cells [I 0, I 0, I 0] 132))) n2 (some (.cells [I f.1, I f.2.1, I f.2.2] 132))) (n2 + 1) (some (.cells [I f.1, I f.2.1, I f.2.2] 79))) (n := n2 + 1 + 1) (o := o) (xs := s.frames.take m)
            (g3.mono fun i hi => by have := g5 i hi; rw [upd_ne _ _ (by omega), upd_ne _ _ (by omega), upd_ne _ _ (by omega)]) (fun i hi => by have := g5 i hi; omega) (y := .osl (n2 + 1) 0 1 (some 1)) [f] (by simp [encs, eF]) rfl (by simp [roomMax]; have := hok.frames; omega) (by simp [roomMax]; have := hok.frames; omega)
          rw [List.length_append, hlm] at e1
          have hon : o ≠ some n1 := fun e => by have := g5 n1 e; omega
          have h3n1 : H3 n1 = H2 n1 := by rw [e5 n1 (by omega) hon, upd_ne _ _ (by omega), upd_ne _ _ (by omega), upd_ne _ _ (by omega)]
          have hw := wrap_succ m (by have := hok.frames; omega)
          have hco : ∀ k, cellsOf (slv o' k) = [slv o' k] := by intro k; cases o' <;> rfl
          have hko : ∀ k, cellOk (slv o' k) = true := by intro k; cases o' <;> rfl
          simp at e1
          simp [t2, t3, t22, t23, t24, hlt, hHb, hpo, n12, n12', g1, e1, h3n1, hcx, hox, hpx, hw]
          have hid : ∀ i, o' = some i → n1 < i ∧ i < n3 := fun i hi => by
            obtain ⟨q, q'⟩ := e4 i hi
            rcases q with q | q
            · exact ⟨(g5 i q).1, q'⟩
            · exact ⟨by omega, q'⟩
          have hon' : ∀ j, j < n1 → o ≠ some j := fun j hj e => by have := g5 j e; omega
          refine ⟨s.frames.length - (m + 1), by omega, hJ _ _ _ _ ⟨m + 1, o', by omega, rfl, by simp [t2], by simp [t3], by simp [t22], by simp [t23], by simp, by simp, ?_, ?_, by omega, hid, fun j hj hj' => ?_⟩⟩
          · rw [upd_ne _ _ (by omega), e5 n (by omega) (hon' n (by omega)), upd_ne _ _ (by omega), upd_ne _ _ (by omega), upd_ne _ _ (by omega), g2]
          · rw [List.take_succ_eq_append_getElem hlt, ← hf]
            exact e2.mono fun i hi => upd_ne _ _ (by have := hid i hi; omega)
          · rw [upd_ne _ _ (by omega), e5 j (by omega) (hon' j hj), upd_ne _ _ (by omega), upd_ne _ _ (by omega), upd_ne _ _ (by omega), g6 j hj hj']
        · have : m = s.frames.length := by omega
          subst this
          rw [List.take_length] at g3
          simp [t2, t3, hnn1, g1, g2, hcx, hox, hpx]
          exact fin _ _ _ o (by simp [t2]) (by simp) (fun j hj hj' => by rw [upd_ne _ _ hj']; exact g6 j hj hj') (g3.mono fun i hi => upd_ne _ _ (by have := g5 i hi; omega)) (by omega) (fun i hi => by have := g5 i hi; omega)
end Go.Proofs.Ytfflojbgikfbmaa.Sta
