/-
  Sums of terms: the document's values.
-/
import Derived.Test.YtfbkgjmpadknfaaPY
namespace Go.Proofs.Ytfbkgjmpadknfaa.M
open Go.Proofs.YtfbkgjmpadknfaaW.Ah Go.Proofs.Ytfbkgjmpadknfaa
set_option linter.unusedVariables false
set_option linter.unusedSimpArgs false

theorem vv_pos {l : List Int} {i : Nat} (h : 1 ≤ vv l i) : idx l (i : Int) = some (vv l i) := by
  rw [idx_nat]
  unfold vv at h ⊢
  by_cases c : i < l.length
  · rw [List.getElem?_eq_getElem c]
    simp [c] at h ⊢
    split at h <;> omega
  · simp [List.getElem?_eq_none (show l.length ≤ i by omega)] at h
theorem term_pow (F : Nat) (t : api_Term) (l : List Int) (i : Nat) (hi : i < 12) (he : ex t i ≤ 6) (K : Int → Option (Int × Int)) : ∀ (r c n : Nat) (v : Int), (c : Int) + r = ex t i → r < n → 0 ≤ v → v ≤ 1099511627776 → (0 < r → 1 ≤ vv l i) →
    R13_term_L2 F t l (i : Int) K n v (c : Int) = if v * pw (vv l i) r ≤ 1099511627776 then K (v * pw (vv l i) r) else some (0, 17)
  | 0, c, n, v, hc, hn, h0, h1, hw => by
    cases n with
    | zero => omega
    | succ n =>
      rw [R13_term_L2]
      have : ¬ (c : Int) < ex t i := by omega
      simp [idx_key t i hi, wrap_ok (show -9223372036854775808 ≤ ex t i by omega) (by omega), this, pw, h1]
  | r + 1, c, n, v, hc, hn, h0, h1, hw => by
    cases n with
    | zero => omega
    | succ n =>
      have hw1 := hw (by omega)
      rw [show pw (vv l i) (r + 1) = vv l i * pw (vv l i) r from rfl]
      rw [R13_term_L2]
      have : (c : Int) < ex t i := by omega
      simp only [idx_key t i hi, Option.bind_some, wrap_ok (show -9223372036854775808 ≤ ex t i by omega) (by omega), this, decide_true, cond_true, vv_pos hw1, quo_ok hw1, quo_lt hw1]
      by_cases g : 1099511627776 < v * vv l i
      · simp only [g, decide_true, cond_true]
        rw [if_neg (over_lt h0 (by omega) (pw_pos hw1 r) g)]
      · have hp := Int.mul_nonneg h0 (vv_nonneg l i)
        simp only [g, decide_false, cond_false, wrap_ok (show -9223372036854775808 ≤ v * vv l i by omega) (by omega), wrapS c (by omega)]
        have ih := term_pow F t l i hi he K r (c + 1) n (v * vv l i) (by omega) (by omega) hp (by omega) (fun _ => hw1)
        rw [ih, Int.mul_assoc]
theorem ex_mid {t : api_Term} {pe : List Int} {e : Int} {es : List Int} (h : key t = pe ++ e :: es) : ex t pe.length = e := by
  unfold ex; rw [h]; simp
theorem term_mon (F : Nat) (hF : 1000 ≤ F) (t : api_Term) (l : List Int) : ∀ (es pe : List Int) (n : Nat) (v : Int), key t = pe ++ es → es.length < n → (∀ e ∈ es, 0 ≤ e ∧ e ≤ 6) → 0 ≤ v → v ≤ 1099511627776 → nz l pe.length es = true →
    R13_term_L1 F t l n v (pe.length : Int) = some (if v * mon l pe.length es ≤ 1099511627776 then (v * mon l pe.length es, 0) else (0, 17))
  | [], pe, n, v, h, hn, _, h0, h1, _ => by
    cases n with
    | zero => omega
    | succ n =>
      have h2 := key_len t; rw [h] at h2; simp at h2
      rw [R13_term_L1]
      simp [h2, mon, h1]
  | e :: es, pe, n, v, h, hn, hu, h0, h1, hz => by
    cases n with
    | zero => omega
    | succ n =>
      have h2 := key_len t; rw [h] at h2; simp at h2
      obtain ⟨e1, e2⟩ := hu e List.mem_cons_self
      have hex := ex_mid h
      rw [R13_term_L1]
      have hlt : decide ((pe.length : Int) < 12) = true := by simp; omega
      rw [hlt, show mon l pe.length (e :: es) = pw (vv l pe.length) e.toNat * mon l (pe.length + 1) es from rfl]
      simp only [nz, Bool.and_eq_true] at hz
      simp only [cond_true, joinM]
      refine (term_pow F t l pe.length (by omega) (by omega) _ e.toNat 0 F v (by omega) (by omega) h0 h1 (fun hr => by
        have h3 := hz.1
        have h4 := vv_nonneg l pe.length
        have : vv l pe.length ≠ 0 := by simpa [show 0 < e by omega] using h3
        omega)).trans ?_
      have hm := mon_pos l es (pe.length + 1) hz.2
      have hp := pw_nonneg (vv_nonneg l pe.length) e.toNat
      by_cases g : v * pw (vv l pe.length) e.toNat ≤ 1099511627776
      · rw [if_pos g]
        have ih := term_mon F hF t l es (pe ++ [e]) n (v * pw (vv l pe.length) e.toNat) (by simp [h]) (by simp at hn; omega) (fun x hx => hu x (List.mem_cons_of_mem _ hx)) (Int.mul_nonneg h0 hp) g (by simpa using hz.2)
        simp only [List.length_append, List.length_singleton] at ih
        rw [wrapS _ (show pe.length < 9223372036854775807 by omega), ih, Int.mul_assoc]
      · rw [if_neg g, if_neg (over_lt h0 hp hm (by omega))]
theorem term_nz (F : Nat) (t : api_Term) (l : List Int) (K : Unit → Option (Int × Int)) : ∀ (es pe : List Int) (n : Nat), key t = pe ++ es → es.length < n →
    R13_term_L0 F t l K n (pe.length : Int) = if nz l pe.length es = true then K () else some (0, 0)
  | [], pe, n, h, hn => by
    cases n with
    | zero => omega
    | succ n =>
      have h2 := key_len t; rw [h] at h2; simp at h2
      rw [R13_term_L0]
      simp [h2, nz]
  | e :: es, pe, n, h, hn => by
    cases n with
    | zero => omega
    | succ n =>
      have h2 := key_len t; rw [h] at h2; simp at h2
      have ih := term_nz F t l K es (pe ++ [e]) n (by simp [h]) (by simp at hn; omega)
      simp only [List.length_append, List.length_singleton] at ih
      rw [R13_term_L0]
      have hlt : decide ((pe.length : Int) < 12) = true := by simp; omega
      rw [hlt, show t.Exps.1 = pe ++ e :: es from h, idx_mid]
      simp only [cond_true, Option.bind_some, joinM, wrapS _ (show pe.length < 9223372036854775807 by omega), ih, nz]
      by_cases c : 0 < e
      · simp only [c, decide_true, cond_true, Bool.true_and]
        by_cases d : (l.length : Int) ≤ (pe.length : Int)
        · have z : vv l pe.length = 0 := by
            unfold vv; simp [List.getElem?_eq_none (show l.length ≤ pe.length by omega)]
          simp [d, z]
        · have hl : pe.length < l.length := by omega
          have hi : idx l (pe.length : Int) = some l[pe.length] := by rw [idx_nat, List.getElem?_eq_getElem hl]
          simp only [d, decide_false, cond_false, hi, Option.bind_some]
          have hv : vv l pe.length = if l[pe.length] < 0 then 0 else l[pe.length] := by unfold vv; simp [hl]
          by_cases z : l[pe.length] < 1
          · have : vv l pe.length = 0 := by rw [hv]; split <;> omega
            simp [z, this]
          · have : (vv l pe.length == 0) = false := by
              rw [hv, if_neg (by omega)]; simp; omega
            simp [z, this]
      · simp [c]
theorem term_ok (F : Nat) (hF : 1000 ≤ F) (t : api_Term) (l : List Int) (h1 : ∀ e ∈ key t, 0 ≤ e ∧ e ≤ 6) (h2 : 1 ≤ t.Coef) (h3 : t.Coef ≤ 1099511627776) :
    R13_term F t l = some (if t.Coef * g0 l (key t) ≤ 1099511627776 then (t.Coef * g0 l (key t), 0) else (0, 17)) := by
  unfold R13_term joinM
  have ha := term_nz F t l (fun x => R13_term_L1 F t l F t.Coef 0) (key t) [] F rfl (by rw [key_len]; omega)
  have hb := term_mon F hF t l (key t) [] F t.Coef rfl (by rw [key_len]; omega) h1 (by omega) h3
  simp only [List.length_nil, Int.natCast_zero] at ha hb
  dsimp only
  rw [ha]
  cases hz : nz l 0 (key t) with
  | true => rw [if_pos rfl, hb hz]
  | false => simp [g0, mon_zero l _ _ hz]
theorem rat_loop (F : Nat) (hF : 1000 ≤ F) (p : List api_Term) (hp : Good p) (l : List Int) : ∀ (q pre : List api_Term) (n : Nat) (v : Int), p = pre ++ q → q.length < n → 0 ≤ v → v ≤ 1099511627776 →
    R13_At_L0 F p l n v (pre.length : Int) = some (if v + val q l ≤ 1099511627776 then (v + val q l, 0) else (0, 17))
  | [], pre, n, v, h, hn, h0, h1 => by
    cases n with
    | zero => omega
    | succ n =>
      rw [R13_At_L0, h]
      simp [dot, h1]
  | t :: q, pre, n, v, h, hn, h0, h1 => by
    cases n with
    | zero => omega
    | succ n =>
      have hla := hp.len
      have hlen : pre.length < p.length := by rw [h]; simp
      have hidx : idx p (pre.length : Int) = some t := by rw [h]; exact idx_mid _ _ _
      have htm : t ∈ p := by rw [h]; simp
      obtain ⟨t1, t2⟩ := hp.coef htm
      have hq : Pos q := fun x hx => hp.pos x (by rw [h]; exact List.mem_append_right _ (List.mem_cons_of_mem _ hx))
      have hn0 : 0 ≤ val q l := dot_nonneg (g0_nonneg l) hq
      have ht0 := Int.mul_nonneg (show 0 ≤ t.Coef by omega) (g0_nonneg l (key t))
      rw [R13_At_L0]
      have hlt : decide ((pre.length : Int) < (p.length : Int)) = true := by simp; omega
      rw [hlt, show val (t :: q) l = t.Coef * g0 l (key t) + val q l from rfl]
      simp only [cond_true, hidx, Option.bind_some, term_ok F hF t l (hp.exps htm) t1 t2]
      by_cases c : t.Coef * g0 l (key t) ≤ 1099511627776
      · rw [if_pos c]
        simp only [bne_self_eq_false, Bool.false_or, wrap_ok (show -9223372036854775808 ≤ 1099511627776 - v by omega) (by omega)]
        by_cases d : 1099511627776 - v < t.Coef * g0 l (key t)
        · simp only [d, decide_true, cond_true]
          rw [if_neg (by omega)]
        · simp only [d, decide_false, cond_false]
          rw [wrap_ok (by omega) (by omega), wrapS _ (by omega)]
          have ih := rat_loop F hF p hp l q (pre ++ [t]) n (v + t.Coef * g0 l (key t)) (by simp [h]) (by simp at hn; omega) (by omega) (by omega)
          simp only [List.length_append, List.length_singleton] at ih
          rw [ih, Int.add_assoc]
      · rw [if_neg c, if_neg (by omega)]; rfl
theorem rat_ok (F : Nat) (hF : 1000 ≤ F) {p : List api_Term} (hp : Good p) (l : List Int) : R13_At F p l = some (atV p l) := by
  have := rat_loop F hF p hp l p [] F 0 rfl (by have := hp.len; omega) (by omega) (by omega)
  simpa [R13_At, atV] using this
end Go.Proofs.Ytfbkgjmpadknfaa.M
