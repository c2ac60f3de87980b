/-
  Sums of terms: the program's order, and what it says can be.
-/
import Derived.Test.YtfbkgjmpadknfaaPA
namespace Go.Proofs.Ytfbkgjmpadknfaa.M
open Go.Proofs.YtfbkgjmpadknfaaW.Ah Go.Proofs.Ytfbkgjmpadknfaa
set_option linter.unusedVariables false
set_option linter.unusedSimpArgs false

theorem cmp_u8 (F : Nat) (x y : Int) : cmp_Compare_uint8 F x y = some (if x < y then -1 else if y < x then 1 else 0) := by
  unfold cmp_Compare_uint8 cmp_isNaN_uint8
  simp
  by_cases h1 : x < y
  · simp [h1]
  · by_cases h2 : y < x
    · simp [h1, h2]
    · simp [h1, h2]

/-- Which of two stands ahead: below 0: the first. -/
def cmpL : List Int → List Int → Int
  | a :: us, b :: bs => if a < b then -1 else if b < a then 1 else cmpL us bs
  | _, _ => 0

theorem cmpL_lt : ∀ {a b : List Int}, a.length = b.length → (cmpL a b < 0 ↔ ltL a b = true)
  | [], [], _ => by simp [cmpL, ltL]
  | [], _ :: _, h => by simp at h
  | _ :: _, [], h => by simp at h
  | a :: us, b :: bs, h => by
    simp only [cmpL, ltL]
    by_cases h1 : a < b
    · rw [if_pos h1, if_neg (by omega)]; simp [h1]
    · rw [if_neg h1]
      by_cases h2 : b < a
      · rw [if_pos h2, if_neg (by omega)]; simp [h1]
      · rw [if_neg h2, if_pos (by omega)]; exact cmpL_lt (by simpa using h)
theorem cmpL_gt : ∀ {a b : List Int}, a.length = b.length → (0 < cmpL a b ↔ ltL b a = true)
  | [], [], _ => by simp [cmpL, ltL]
  | [], _ :: _, h => by simp at h
  | _ :: _, [], h => by simp at h
  | a :: us, b :: bs, h => by
    simp only [cmpL, ltL]
    by_cases h1 : a < b
    · rw [if_pos h1, if_neg (by omega)]; simp; omega
    · rw [if_neg h1]
      by_cases h2 : b < a
      · rw [if_pos h2, if_neg (by omega)]; simp [h2]
      · rw [if_neg h2, if_pos (by omega)]; exact cmpL_gt (by simpa using h)
theorem cmpL_eq {a b : List Int} (h : a.length = b.length) (h1 : ¬ cmpL a b < 0) (h2 : ¬ 0 < cmpL a b) : a = b := by
  rw [cmpL_lt h] at h1; rw [cmpL_gt h] at h2
  cases Decidable.em (a = b) with
  | inl e => exact e
  | inr e => exact absurd (ltL_tri h e (by simpa using h1)) h2

theorem compare_loop (F : Nat) (a b : List Int) (hab : a.length = b.length) (hlen : a.length ≤ 100) (K : Unit → Option Int) (hK : K () = some 0) : ∀ (us bs pa pb : List Int) (n : Nat), a = pa ++ us → b = pb ++ bs → pa.length = pb.length → us.length < n → slices_Compare_uint8_uint8_L0 F a b K n (pa.length : Int) = some (cmpL us bs)
  | [], bs, pa, pb, n, ha, hb, hl, hn => by
    cases n with
    | zero => omega
    | succ n =>
      rw [slices_Compare_uint8_uint8_L0]
      rw [show (a.length : Int) = (pa.length : Int) by rw [ha]; simp]
      simp [cmpL, hK]
  | x :: us, bs, pa, pb, n, ha, hb, hl, hn => by
    cases n with
    | zero => omega
    | succ n =>
      have h1 : a.length = pa.length + (us.length + 1) := by rw [ha]; simp
      have h2 : b.length = pb.length + bs.length := by rw [hb]; simp
      cases bs with
      | nil => simp at h2; omega
      | cons y bs =>
        have ih := compare_loop F a b hab hlen K hK us bs (pa ++ [x]) (pb ++ [y]) n (by simp [ha]) (by simp [hb]) (by simp [hl]) (by simp at hn; omega)
        rw [slices_Compare_uint8_uint8_L0]
        have hlt : decide ((pa.length : Int) < (a.length : Int)) = true := by simp; omega
        have hge : decide ((b.length : Int) ≤ (pa.length : Int)) = false := by simp at h2 ⊢; omega
        rw [hlt, hge]
        rw [show idx a (pa.length : Int) = some x by rw [ha]; exact idx_mid _ _ _, show idx b (pa.length : Int) = some y by rw [hb, hl]; exact idx_mid _ _ _]
        simp only [cond_true, cond_false, Option.bind_some, cmp_u8, cmpL]
        by_cases c1 : x < y
        · simp [c1]
        · by_cases c2 : y < x
          · simp [c1, c2]
          · rw [wrapS _ (by omega)]
            simp only [c1, c2, if_false, bne_self_eq_false, cond_false]
            simpa using ih

theorem compare_ok (F : Nat) (hF : 100 ≤ F) (a b : Arr 12 Int) : poly_compare F a b = some (cmpL a.1 b.1) := by
  unfold poly_compare slices_Compare_uint8_uint8
  have h : a.1.length = b.1.length := by rw [a.2, b.2]
  have := compare_loop F a.1 b.1 h (by rw [a.2]; omega) (fun _ => bif (decide ((a.1.length : Int) < (b.1.length : Int))) then (some (-1)) else (some 0)) (by simp [h]) a.1 b.1 [] [] F rfl rfl rfl (by rw [a.2]; omega)
  simp only [List.length_nil] at this
  rw [show ((0 : Nat) : Int) = 0 from rfl] at this
  simp only [joinM, this, Option.bind_some]
theorem order_ok (F : Nat) (hF : 100 ≤ F) (s t : api_Term) : poly_order F s t = some (cmpL (key s) (key t)) := by
  unfold poly_order
  rw [compare_ok F hF]; rfl

theorem index_u8 (F : Nat) (a : List Int) (ha : a.length ≤ 100) (φ : Int → Option Bool) (p : Int → Bool) (hφ : ∀ x, φ x = some (p x)) : ∀ (us pa : List Int) (n : Nat), a = pa ++ us → us.length < n → ∃ k, slices_IndexFunc_uint8_uint8_L0 F a φ n (pa.length : Int) = some k ∧ (0 ≤ k ↔ us.any p = true)
  | [], pa, n, h, hn => by
    cases n with
    | zero => omega
    | succ n =>
      refine ⟨-1, ?_, by simp⟩
      rw [slices_IndexFunc_uint8_uint8_L0]
      rw [show (a.length : Int) = (pa.length : Int) by rw [h]; simp]
      simp
  | x :: us, pa, n, h, hn => by
    cases n with
    | zero => omega
    | succ n =>
      have h1 : a.length = pa.length + (us.length + 1) := by rw [h]; simp
      obtain ⟨k, hk, hi⟩ := index_u8 F a ha φ p hφ us (pa ++ [x]) n (by simp [h]) (by simp at hn; omega)
      rw [slices_IndexFunc_uint8_uint8_L0]
      have hlt : decide ((pa.length : Int) < (a.length : Int)) = true := by simp; omega
      rw [hlt, show idx a (pa.length : Int) = some x by rw [h]; exact idx_mid _ _ _]
      simp only [cond_true, Option.bind_some, hφ]
      cases hp : p x with
      | true => exact ⟨_, rfl, by simp [hp]⟩
      | false =>
        rw [wrapS _ (by omega)]
        exact ⟨k, by simpa using hk, by simpa [hp] using hi⟩

theorem powers_ok (F : Nat) (hF : 100 ≤ F) (a : Arr 12 Int) : poly_powers_fit F a = some (a.1.all (fun e => decide (e ≤ 6))) := by
  unfold poly_powers_fit slices_ContainsFunc_uint8_uint8 slices_IndexFunc_uint8_uint8
  obtain ⟨k, hk, hi⟩ := index_u8 F a.1 (by rw [a.2]; omega) (fun y0 => poly_powers_fit_1 F y0) (fun e => decide (6 < e)) (fun x => rfl) a.1 [] F rfl (by rw [a.2]; omega)
  simp only [List.length_nil] at hk
  rw [show ((0 : Nat) : Int) = 0 from rfl] at hk
  simp only [hk, Option.bind_some]
  congr 1
  have : decide (0 ≤ k) = a.1.any (fun e => decide (6 < e)) := by
    cases h : a.1.any (fun e => decide (6 < e)) with
    | true => rw [h] at hi; simpa using hi
    | false => rw [h] at hi; simpa using hi
  rw [this, List.not_any_eq_all_not]
  congr 2
  funext e
  by_cases he : 6 < e
  · have : ¬ e ≤ 6 := by omega
    simp [he, this]
  · have : e ≤ 6 := by omega
    simp [he, this]

theorem pfit_loop (F : Nat) (hF : 100 ≤ F) (p : List api_Term) (hp : p.length ≤ 64) : ∀ (l pre : List api_Term) (n : Nat), p = pre ++ l → l.length < n → poly_Fit_L0 F p n (pre.length : Int) = some (chk pre.getLast? l)
  | [], pre, n, h, hn => by
    cases n with
    | zero => omega
    | succ n => subst h; rw [poly_Fit_L0]; simp [chk]
  | t :: l, pre, n, h, hn => by
    cases n with
    | zero => omega
    | succ n =>
      have ih := pfit_loop F hF p hp l (pre ++ [t]) n (by simp [h]) (by simp at hn; omega)
      have hg : (pre ++ [t]).getLast? = some t := by simp
      rw [hg] at ih
      have hlen : pre.length < p.length := by rw [h]; simp
      have hidx : idx p (pre.length : Int) = some t := by rw [h]; exact idx_mid _ _ _
      simp only [List.length_append, List.length_singleton] at ih
      rw [poly_Fit_L0]
      have hlt : decide ((pre.length : Int) < (p.length : Int)) = true := by simp; omega
      rw [hlt]
      simp only [cond_true, hidx, Option.bind_some, joinM, chk, okT, wrapS _ (show pre.length < 9223372036854775807 by omega), ih, powers_ok F hF]
      by_cases c1 : t.Coef < 1
      · have : ¬ 1 ≤ t.Coef := by omega
        simp [c1, this]
      · by_cases c2 : 1099511627776 < t.Coef
        · have : ¬ t.Coef ≤ 1099511627776 := by omega
          simp [c1, c2, this]
        · have d1 : 1 ≤ t.Coef := by omega
          have d2 : t.Coef ≤ 1099511627776 := by omega
          simp only [c1, c2, d1, d2, decide_false, decide_true, cond_false, Bool.true_and, Bool.or_false]
          cases hall : t.Exps.1.all (fun e => decide (e ≤ 6)) with
          | false => simp [key, hall]
          | true =>
            simp only [key, hall, Bool.not_true, cond_false, Bool.true_and]
            cases hq : pre.getLast? with
            | none =>
              have : pre = [] := List.getLast?_eq_none_iff.1 hq
              subst this
              simp
            | some s =>
              obtain ⟨pre', hpre⟩ := List.getLast?_eq_some_iff.1 hq
              have hl2 : pre.length = pre'.length + 1 := by rw [hpre]; simp only [List.length_append, List.length_singleton]
              have hpos : (0 : Int) < (pre.length : Int) := by omega
              have hw : IntKind.i64.wrap ((pre.length : Int) - 1) = (pre'.length : Int) := by
                rw [hl2, show (((pre'.length + 1 : Nat) : Int) - 1) = (pre'.length : Int) by omega]
                exact wrap_ok (by omega) (by omega)
              have hs : idx p (pre'.length : Int) = some s := by rw [h, hpre, List.append_assoc]; exact idx_mid _ _ _
              simp only [hpos, decide_true, cond_true, hw, hs, Option.bind_some, compare_ok F hF]
              have hc := cmpL_lt (a := s.Exps.1) (b := t.Exps.1) (by rw [s.Exps.2, t.Exps.2])
              cases hlts : ltL s.Exps.1 t.Exps.1 with
              | false => rw [hlts] at hc; simp at hc; simp [hc]
              | true =>
                rw [hlts] at hc; simp at hc
                have : ¬ 0 ≤ cmpL s.Exps.1 t.Exps.1 := by omega
                simp [this]
theorem pfit_ok (F : Nat) (hF : 100 ≤ F) (p : List api_Term) : poly_Fit F p = some (fitB p) := by
  unfold poly_Fit fitB
  by_cases h : 64 < (p.length : Int)
  · have : ¬ p.length ≤ 64 := by omega
    simp [h, this]
  · have hl : p.length ≤ 64 := by omega
    have := pfit_loop F hF p hl p [] F rfl (by omega)
    simp only [h, decide_false, cond_false, hl, decide_true, Bool.true_and]
    simpa using this
theorem checked_ok (F : Nat) (hF : 100 ≤ F) (p : List api_Term) : poly_checked F p = some (if fitB p = true then (p, 0) else ([], 17)) := by
  unfold poly_checked
  rw [pfit_ok F hF]
  cases fitB p <;> rfl
end Go.Proofs.Ytfbkgjmpadknfaa.M
