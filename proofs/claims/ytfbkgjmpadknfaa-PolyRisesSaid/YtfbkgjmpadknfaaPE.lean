/-
  Sums of terms: what the laws ask ahead of all else.
-/
import Derived.Test.YtfbkgjmpadknfaaPD
namespace Go.Proofs.Ytfbkgjmpadknfaa.M
open Go.Proofs.YtfbkgjmpadknfaaW.Ah Go.Proofs.Ytfbkgjmpadknfaa
set_option linter.unusedVariables false
set_option linter.unusedSimpArgs false

theorem cond_both {α : Type} {c : Bool} {f g z : α} (h1 : c = true → f = z) (h2 : c = false → g = z) : (bif c then f else g) = z := by
  cases c with
  | true => exact h1 rfl
  | false => exact h2 rfl
theorem same_loop (F : Nat) (p : List api_Term) (hp : p.length ≤ 64) : ∀ (l pre : List api_Term) (n : Nat), p = pre ++ l → l.length < n → R13_Same_L0 F p p n (pre.length : Int) = some true
  | [], pre, n, h, hn => by
    cases n with
    | zero => omega
    | succ n => subst h; rw [R13_Same_L0]; simp
  | t :: l, pre, n, h, hn => by
    cases n with
    | zero => omega
    | succ n =>
      have hlen : pre.length < p.length := by rw [h]; simp
      have hidx : idx p (pre.length : Int) = some t := by rw [h]; exact idx_mid _ _ _
      have ih := same_loop F p hp l (pre ++ [t]) n (by simp [h]) (by simp at hn; omega)
      simp only [List.length_append, List.length_singleton] at ih
      rw [R13_Same_L0]
      have hlt : decide ((pre.length : Int) < (p.length : Int)) = true := by simp; omega
      rw [hlt]
      simp only [cond_true, hidx, Option.bind_some, beq_self_eq_true, Bool.and_self, Bool.not_true, cond_false, wrapS _ (show pre.length < 9223372036854775807 by omega), ih]
theorem same_ok (F : Nat) (hF : 100 ≤ F) (p : List api_Term) (hp : p.length ≤ 64) : R13_Same F p p = some true := by
  have := same_loop F p hp p [] F rfl (by omega)
  simp only [List.length_nil] at this
  rw [show ((0 : Nat) : Int) = 0 from rfl] at this
  simp [R13_Same, this]

theorem few_loop (F : Nat) (hF : 100 ≤ F) (ps : List (List api_Term)) (hp : ps.length ≤ maxLen) : ∀ (l pre : List (List api_Term)) (n : Nat) (v : Int), ps = pre ++ l → l.length < n → 0 ≤ v → v ≤ 30 →
    ∃ b, L13_few_L0 F ps n v (pre.length : Int) = some b ∧ (b = true → ps.length ≤ 20 ∧ ∀ p ∈ l, fitB p = true)
  | [], pre, n, v, h, hn, _, _ => by
    cases n with
    | zero => omega
    | succ n =>
      refine ⟨decide ((ps.length : Int) ≤ 20), ?_, fun e => ⟨by simp at e; omega, fun p hp => by cases hp⟩⟩
      rw [L13_few_L0, h]; simp
  | t :: l, pre, n, v, h, hn, hv1, hv2 => by
    cases n with
    | zero => omega
    | succ n =>
      have hlen : pre.length < ps.length := by rw [h]; simp
      have hidx : idx ps (pre.length : Int) = some t := by rw [h]; exact idx_mid _ _ _
      rw [L13_few_L0]
      have hlt : decide ((pre.length : Int) < (ps.length : Int)) = true := by simp; omega
      rw [hlt]
      simp only [cond_true, hidx, Option.bind_some, rfit_ok F hF]
      cases hf : fitB t with
      | false => exact ⟨false, rfl, fun e => by cases e⟩
      | true =>
        have hl := ((fit_iff t).1 hf).1
        simp only [Bool.not_true, Bool.false_or]
        rw [wrap_ok (by omega) (by omega)]
        by_cases c : 30 < v + (t.length : Int)
        · exact ⟨false, by simp [c], fun e => by cases e⟩
        · simp only [c, decide_false, cond_false]
          have hm : pre.length < 9223372036854775807 := by simp [maxLen] at hp; omega
          rw [wrapS _ hm]
          obtain ⟨b, e1, e2⟩ := few_loop F hF ps hp l (pre ++ [t]) n (v + t.length) (by simp [h]) (by simp at hn; omega) (by omega) (by omega)
          simp only [List.length_append, List.length_singleton] at e1
          refine ⟨b, e1, fun e => ⟨(e2 e).1, fun p hp => ?_⟩⟩
          rcases List.mem_cons.1 hp with rfl | hp
          · exact hf
          · exact (e2 e).2 p hp
theorem few_ok (F : Nat) (ps : List (List api_Term)) (hp : ps.length ≤ maxLen) (hF : 100 + ps.length ≤ F) : ∃ b, L13_few F ps = some b ∧ (b = true → ps.length ≤ 20 ∧ ∀ p ∈ ps, fitB p = true) := by
  have := few_loop F (by omega) ps hp ps [] F 0 rfl (by omega) (by omega) (by omega)
  simpa [L13_few] using this

theorem nn_of {x : List api_Term} (w : W37 x) : NN x := fun t ht e he => by
  have := (w.2 t ht).1 e he
  have := this.1
  exact this
theorem w5_lo {x : Int} (w : W5 x) : 0 ≤ x := w.1
theorem w5_hi {x : Int} (w : W5 x) : x ≤ 255 := w.2
theorem w46_lo {x : Int} (w : W46 x) : 0 ≤ x := w.1
theorem w46_hi {x : Int} (w : W46 x) : x ≤ 4294967295 := w.2
theorem w2_lo {x : Int} (w : W2 x) : -9223372036854775808 ≤ x := w.1
theorem w2_hi {x : Int} (w : W2 x) : x ≤ 9223372036854775807 := w.2
theorem res_len {l : List api_Term} (h : NN l) : (Res l).1.length ≤ 64 := (res_good h).len
theorem awake_ok : L13_awake 2000 = some true := by decide +kernel
end Go.Proofs.Ytfbkgjmpadknfaa.M
