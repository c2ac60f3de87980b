/-
  Sums of terms: their order, which can be, sums, products.
-/
import Derived.Test.YtfbkgjmpadknfaaGM
import Derived.Test.YtfbkgjmpadknfaaGO
namespace Go.Proofs.Ytfbkgjmpadknfaa.M
open Go.Proofs.YtfbkgjmpadknfaaW.Ah Go.Proofs.Ytfbkgjmpadknfaa
set_option linter.unusedVariables false
set_option linter.unusedSimpArgs false

theorem idx_nat {α : Type} (xs : List α) (k : Nat) : idx xs (k : Int) = xs[k]? := by simp [idx]
theorem idx_mid {α : Type} (pre : List α) (t : α) (l : List α) : idx (pre ++ t :: l) (pre.length : Int) = some t := by rw [idx_nat]; simp
theorem idx_zero {α : Type} (t : α) (l : List α) : idx (t :: l) 0 = some t := by simp [idx]
theorem wrap_ok {x : Int} (h1 : -9223372036854775808 ≤ x) (h2 : x ≤ 9223372036854775807) : IntKind.i64.wrap x = x := wrap64_id h1 (by omega)
theorem wrapS (n : Nat) (h : n < 9223372036854775807) : IntKind.i64.wrap ((n : Int) + 1) = ((n + 1 : Nat) : Int) := wrap_succ n (by omega)

/-- What stands ahead, of rows of numbers. -/
def ltL : List Int → List Int → Bool
  | a :: us, b :: bs => if a = b then ltL us bs else decide (a < b)
  | _, _ => false

theorem ltL_irrefl : ∀ (a : List Int), ltL a a = false
  | [] => rfl
  | a :: us => by simp [ltL, ltL_irrefl us]
theorem ltL_trans : ∀ {a b c : List Int}, ltL a b = true → ltL b c = true → ltL a c = true
  | [], _, _, h, _ => by cases h
  | _ :: _, [], _, h, _ => by cases h
  | _ :: _, _ :: _, [], _, h => by cases h
  | a :: us, b :: bs, c :: cs, h, g => by
    simp only [ltL] at h g ⊢
    by_cases e1 : a = b
    · subst e1
      rw [if_pos rfl] at h
      by_cases e2 : a = c
      · subst e2; rw [if_pos rfl] at g ⊢; exact ltL_trans h g
      · rw [if_neg e2] at g ⊢; exact g
    · rw [if_neg e1] at h
      by_cases e2 : b = c
      · subst e2; rw [if_neg e1]; exact h
      · rw [if_neg e2] at g
        simp only [decide_eq_true_eq] at h g
        rw [if_neg (by omega)]; simp only [decide_eq_true_eq]; omega
theorem ltL_asymm {a b : List Int} (h : ltL a b = true) : ltL b a = false := by
  cases hb : ltL b a with
  | false => rfl
  | true => have := ltL_trans h hb; rw [ltL_irrefl] at this; cases this
theorem ltL_ne {a b : List Int} (h : ltL a b = true) : a ≠ b := by
  rintro rfl; rw [ltL_irrefl] at h; cases h
theorem ltL_tri : ∀ {a b : List Int}, a.length = b.length → a ≠ b → ltL a b = false → ltL b a = true
  | [], [], _, h, _ => absurd rfl h
  | [], _ :: _, h, _, _ => by simp at h
  | _ :: _, [], h, _, _ => by simp at h
  | a :: us, b :: bs, hl, hn, h => by
    simp only [ltL] at h ⊢
    by_cases e : a = b
    · subst e
      rw [if_pos rfl] at h ⊢
      exact ltL_tri (by simpa using hl) (fun e => hn (by rw [e])) h
    · rw [if_neg e] at h
      rw [if_neg (fun e' => e e'.symm)]
      simp only [decide_eq_false_iff_not, decide_eq_true_eq] at h ⊢
      omega
/-- Adding the same on both sides. -/
theorem ltL_add : ∀ (a b c : List Int), a.length = c.length → b.length = c.length → ltL (List.zipWith (· + ·) a c) (List.zipWith (· + ·) b c) = ltL a b
  | [], [], c, _, _ => by simp [ltL]
  | [], _ :: _, c, h, g => by rw [← h] at g; simp at g
  | _ :: _, [], c, h, g => by rw [← g] at h; simp at h
  | a :: us, b :: bs, c :: cs, h, g => by
    simp only [List.zipWith, ltL]
    rw [ltL_add us bs cs (by simpa using h) (by simpa using g)]
    by_cases e : a = b
    · subst e; simp
    · rw [if_neg e, if_neg (by omega)]; simp
  | _ :: _, _ :: _, [], h, _ => by simp at h

abbrev key (t : api_Term) : List Int := t.Exps.1
theorem key_len (t : api_Term) : (key t).length = 12 := t.Exps.2
theorem term_ext {s t : api_Term} (h1 : key s = key t) (h2 : s.Coef = t.Coef) : s = t := by
  cases s; cases t; simp only [key] at h1; simp only at h2; subst h2; congr; exact Arr.ext h1

/-- A term that can be. -/
def okT (t : api_Term) : Bool := decide (1 ≤ t.Coef) && decide (t.Coef ≤ 1099511627776) && (key t).all (fun e => decide (e ≤ 6))
def chk : Option api_Term → List api_Term → Bool
  | _, [] => true
  | pv, t :: l => okT t && (match pv with | none => true | some s => ltL (key s) (key t)) && chk (some t) l
def fitB (p : List api_Term) : Bool := decide (p.length ≤ 64) && chk none p

/-! The document's. -/
theorem less_loop (F : Nat) (a b : Arr 12 Int) : ∀ (us bs pa pb : List Int) (n : Nat), a.1 = pa ++ us → b.1 = pb ++ bs → pa.length = pb.length → us.length < n → R13_less_L0 F a b n (pa.length : Int) = some (ltL us bs)
  | [], bs, pa, pb, n, ha, hb, hl, hn => by
    cases n with
    | zero => omega
    | succ n =>
      have h1 := a.2; rw [ha] at h1; simp at h1
      rw [R13_less_L0]
      simp [h1, ltL]
  | x :: us, bs, pa, pb, n, ha, hb, hl, hn => by
    cases n with
    | zero => omega
    | succ n =>
      have h1 := a.2; rw [ha] at h1; simp at h1
      have h2 := b.2; rw [hb] at h2; simp at h2
      cases bs with
      | nil => simp at h2; omega
      | cons y bs =>
        have ih := less_loop F a b us bs (pa ++ [x]) (pb ++ [y]) n (by simp [ha]) (by simp [hb]) (by simp [hl]) (by simp at hn; omega)
        rw [R13_less_L0]
        rw [ha, hb, idx_mid, hl, idx_mid, ← hl]
        have hlt : decide ((pa.length : Int) < 12) = true := by simp; omega
        rw [hlt]
        simp only [cond_true, Option.bind_some, ltL]
        by_cases e : x = y
        · subst e
          rw [wrapS _ (by omega)]
          simp only [bne_self_eq_false, cond_false, if_true]
          simpa using ih
        · have hne : (x != y) = true := by simp [e]
          rw [hne]; simp [e]
theorem less_ok (F : Nat) (hF : 20 ≤ F) (a b : Arr 12 Int) : R13_less F a b = some (ltL a.1 b.1) := by
  have := less_loop F a b a.1 b.1 [] [] F rfl rfl rfl (by rw [a.2]; omega)
  simpa [R13_less] using this

theorem fit_exps (F : Nat) (p : List api_Term) (i : Nat) (t : api_Term) (K : Unit → Option Bool) (hi : p[i]? = some t) : ∀ (es pe : List Int) (n : Nat), key t = pe ++ es → es.length < n →
    R13_Fit_L1 F p (i : Int) K n (pe.length : Int) = if es.all (fun e => decide (e ≤ 6)) = true then K () else some false
  | [], pe, n, h, hn => by
    cases n with
    | zero => omega
    | succ n =>
      have h1 := key_len t; rw [h] at h1; simp at h1
      rw [R13_Fit_L1]; simp [h1]
  | e :: es, pe, n, h, hn => by
    cases n with
    | zero => omega
    | succ n =>
      have h1 := key_len t; rw [h] at h1; simp at h1
      have ih := fit_exps F p i t K hi es (pe ++ [e]) n (by simp [h]) (by simp at hn; omega)
      rw [R13_Fit_L1]
      have hlt : decide ((pe.length : Int) < 12) = true := by simp; omega
      rw [hlt, idx_nat, hi]
      simp only [cond_true, Option.bind_some]
      rw [show t.Exps.1 = pe ++ e :: es from h, idx_mid]
      simp only [Option.bind_some]
      by_cases he : 6 < e
      · have : ¬ e ≤ 6 := by omega
        simp [he, this]
      · have : e ≤ 6 := by omega
        rw [wrapS _ (by omega)]
        simp only [he, decide_false, cond_false, List.all_cons, this, decide_true, Bool.true_and]
        simpa using ih

theorem rfit_loop (F : Nat) (hF : 20 ≤ F) (p : List api_Term) (hp : p.length ≤ 64) : ∀ (l pre : List api_Term) (n : Nat), p = pre ++ l → l.length < n → R13_Fit_L0 F p n (pre.length : Int) = some (chk pre.getLast? l)
  | [], pre, n, h, hn => by
    cases n with
    | zero => omega
    | succ n => subst h; rw [R13_Fit_L0]; simp [chk]
  | t :: l, pre, n, h, hn => by
    cases n with
    | zero => omega
    | succ n =>
      have ih := rfit_loop F hF p hp l (pre ++ [t]) n (by simp [h]) (by simp at hn; omega)
      have hg : (pre ++ [t]).getLast? = some t := by simp
      rw [hg] at ih
      have hlen : pre.length < p.length := by rw [h]; simp
      have hidx : idx p (pre.length : Int) = some t := by rw [h]; exact idx_mid _ _ _
      have hget : p[pre.length]? = some t := by rw [← idx_nat]; exact hidx
      have hex := fit_exps F p pre.length t (fun _ => R13_Fit_L0 F p n (IntKind.i64.wrap ((pre.length : Int) + 1))) hget (key t) [] F rfl (by rw [key_len]; omega)
      rw [wrapS _ (by omega)] at hex
      simp only [List.length_append, List.length_singleton] at ih
      rw [ih] at hex
      rw [R13_Fit_L0]
      have hlt : decide ((pre.length : Int) < (p.length : Int)) = true := by simp; omega
      rw [hlt]
      simp only [cond_true, hidx, Option.bind_some, joinM, chk, okT, wrapS _ (show pre.length < 9223372036854775807 by omega), ih]
      simp only [List.length_nil, Int.natCast_zero] at hex
      rw [hex]
      by_cases c1 : t.Coef < 1
      · have : ¬ 1 ≤ t.Coef := by omega
        simp [c1, this]
      · by_cases c2 : 1099511627776 < t.Coef
        · have : ¬ t.Coef ≤ 1099511627776 := by omega
          simp [c1, c2, this]
        · have d1 : 1 ≤ t.Coef := by omega
          have d2 : t.Coef ≤ 1099511627776 := by omega
          simp only [c1, c2, d1, d2, decide_false, decide_true, cond_false, Bool.true_and]
          cases hall : (key t).all (fun e => decide (e ≤ 6)) with
          | false =>
            rw [hall] at hex
            simp only [Bool.false_eq_true, if_false] at hex
            cases hq : pre.getLast? with
            | none =>
              have : pre = [] := List.getLast?_eq_none_iff.1 hq
              subst this
              simp only [List.length_nil] at hex ⊢
              simp [hex]
            | some s =>
              obtain ⟨pre', hpre⟩ := List.getLast?_eq_some_iff.1 hq
              have hpos : (0 : Int) < (pre.length : Int) := by rw [hpre]; simp only [List.length_append, List.length_singleton]; omega
              have hw : IntKind.i64.wrap ((pre.length : Int) - 1) = (pre'.length : Int) := by
                have hl2 : pre.length = pre'.length + 1 := by rw [hpre]; simp only [List.length_append, List.length_singleton]
                rw [hl2, show (((pre'.length + 1 : Nat) : Int) - 1) = (pre'.length : Int) by omega]
                exact wrap_ok (by omega) (by omega)
              have hs : idx p (pre'.length : Int) = some s := by rw [h, hpre, List.append_assoc]; exact idx_mid _ _ _
              simp only [hpos, decide_true, cond_true, hw, hs, Option.bind_some, less_ok F hF, hex]
              cases ltL s.Exps.1 t.Exps.1 <;> rfl
          | true =>
            rw [hall] at hex
            simp only [if_true] at hex
            cases hq : pre.getLast? with
            | none =>
              have : pre = [] := List.getLast?_eq_none_iff.1 hq
              subst this
              simp only [List.length_nil] at hex ⊢
              simp [hex]
            | some s =>
              obtain ⟨pre', hpre⟩ := List.getLast?_eq_some_iff.1 hq
              have hpos : (0 : Int) < (pre.length : Int) := by rw [hpre]; simp only [List.length_append, List.length_singleton]; omega
              have hw : IntKind.i64.wrap ((pre.length : Int) - 1) = (pre'.length : Int) := by
                have hl2 : pre.length = pre'.length + 1 := by rw [hpre]; simp only [List.length_append, List.length_singleton]
                rw [hl2, show (((pre'.length + 1 : Nat) : Int) - 1) = (pre'.length : Int) by omega]
                exact wrap_ok (by omega) (by omega)
              have hs : idx p (pre'.length : Int) = some s := by rw [h, hpre, List.append_assoc]; exact idx_mid _ _ _
              simp only [hpos, decide_true, cond_true, hw, hs, Option.bind_some, less_ok F hF, hex]
              cases hlts : ltL s.Exps.1 t.Exps.1 <;> simp [key, hlts]
theorem rfit_ok (F : Nat) (hF : 100 ≤ F) (p : List api_Term) : R13_Fit F p = some (fitB p) := by
  unfold R13_Fit fitB
  by_cases h : 64 < (p.length : Int)
  · have : ¬ p.length ≤ 64 := by omega
    simp [h, this]
  · have hl : p.length ≤ 64 := by omega
    have := rfit_loop F (by omega) p hl p [] F rfl (by omega)
    simp only [h, decide_false, cond_false, hl, decide_true, Bool.true_and]
    simpa using this

theorem cmp_u8 (F : Nat) (x y : Int) : cmp_Compare_uint8 F x y = some (if x < y then -1 else if y < x then 1 else 0) := by
  unfold cmp_Compare_uint8 cmp_isNaN_uint8
  simp
  by_cases h1 : x < y
  · simp [h1]
  · by_cases h2 : y < x
    · simp [h1, h2]
    · simp [h1, h2]

/-- Which of two stands ahead: below 0: the first. -/
def cmpL : List Int → List Int → Int
  | a :: us, b :: bs => if a < b then -1 else if b < a then 1 else cmpL us bs
  | _, _ => 0

theorem cmpL_lt : ∀ {a b : List Int}, a.length = b.length → (cmpL a b < 0 ↔ ltL a b = true)
  | [], [], _ => by simp [cmpL, ltL]
  | [], _ :: _, h => by simp at h
  | _ :: _, [], h => by simp at h
  | a :: us, b :: bs, h => by
    simp only [cmpL, ltL]
    by_cases h1 : a < b
    · rw [if_pos h1, if_neg (by omega)]; simp [h1]
    · rw [if_neg h1]
      by_cases h2 : b < a
      · rw [if_pos h2, if_neg (by omega)]; simp [h1]
      · rw [if_neg h2, if_pos (by omega)]; exact cmpL_lt (by simpa using h)
theorem cmpL_gt : ∀ {a b : List Int}, a.length = b.length → (0 < cmpL a b ↔ ltL b a = true)
  | [], [], _ => by simp [cmpL, ltL]
  | [], _ :: _, h => by simp at h
  | _ :: _, [], h => by simp at h
  | a :: us, b :: bs, h => by
    simp only [cmpL, ltL]
    by_cases h1 : a < b
    · rw [if_pos h1, if_neg (by omega)]; simp; omega
    · rw [if_neg h1]
      by_cases h2 : b < a
      · rw [if_pos h2, if_neg (by omega)]; simp [h2]
      · rw [if_neg h2, if_pos (by omega)]; exact cmpL_gt (by simpa using h)
theorem cmpL_eq {a b : List Int} (h : a.length = b.length) (h1 : ¬ cmpL a b < 0) (h2 : ¬ 0 < cmpL a b) : a = b := by
  rw [cmpL_lt h] at h1; rw [cmpL_gt h] at h2
  cases Decidable.em (a = b) with
  | inl e => exact e
  | inr e => exact absurd (ltL_tri h e (by simpa using h1)) h2

theorem compare_loop (F : Nat) (a b : List Int) (hab : a.length = b.length) (hlen : a.length ≤ 100) (K : Unit → Option Int) (hK : K () = some 0) : ∀ (us bs pa pb : List Int) (n : Nat), a = pa ++ us → b = pb ++ bs → pa.length = pb.length → us.length < n → slices_Compare_uint8_uint8_L0 F a b K n (pa.length : Int) = some (cmpL us bs)
  | [], bs, pa, pb, n, ha, hb, hl, hn => by
    cases n with
    | zero => omega
    | succ n =>
      rw [slices_Compare_uint8_uint8_L0]
      rw [show (a.length : Int) = (pa.length : Int) by rw [ha]; simp]
      simp [cmpL, hK]
  | x :: us, bs, pa, pb, n, ha, hb, hl, hn => by
    cases n with
    | zero => omega
    | succ n =>
      have h1 : a.length = pa.length + (us.length + 1) := by rw [ha]; simp
      have h2 : b.length = pb.length + bs.length := by rw [hb]; simp
      cases bs with
      | nil => simp at h2; omega
      | cons y bs =>
        have ih := compare_loop F a b hab hlen K hK us bs (pa ++ [x]) (pb ++ [y]) n (by simp [ha]) (by simp [hb]) (by simp [hl]) (by simp at hn; omega)
        rw [slices_Compare_uint8_uint8_L0]
        have hlt : decide ((pa.length : Int) < (a.length : Int)) = true := by simp; omega
        have hge : decide ((b.length : Int) ≤ (pa.length : Int)) = false := by simp at h2 ⊢; omega
        rw [hlt, hge]
        rw [show idx a (pa.length : Int) = some x by rw [ha]; exact idx_mid _ _ _, show idx b (pa.length : Int) = some y by rw [hb, hl]; exact idx_mid _ _ _]
        simp only [cond_true, cond_false, Option.bind_some, cmp_u8, cmpL]
        by_cases c1 : x < y
        · simp [c1]
        · by_cases c2 : y < x
          · simp [c1, c2]
          · rw [wrapS _ (by omega)]
            simp only [c1, c2, if_false, bne_self_eq_false, cond_false]
            simpa using ih

theorem compare_ok (F : Nat) (hF : 100 ≤ F) (a b : Arr 12 Int) : poly_compare F a b = some (cmpL a.1 b.1) := by
  unfold poly_compare slices_Compare_uint8_uint8
  have h : a.1.length = b.1.length := by rw [a.2, b.2]
  have := compare_loop F a.1 b.1 h (by rw [a.2]; omega) (fun _ => bif (decide ((a.1.length : Int) < (b.1.length : Int))) then (some (-1)) else (some 0)) (by simp [h]) a.1 b.1 [] [] F rfl rfl rfl (by rw [a.2]; omega)
  simp only [List.length_nil] at this
  rw [show ((0 : Nat) : Int) = 0 from rfl] at this
  simp only [joinM, this, Option.bind_some]
theorem order_ok (F : Nat) (hF : 100 ≤ F) (s t : api_Term) : poly_order F s t = some (cmpL (key s) (key t)) := by
  unfold poly_order
  rw [compare_ok F hF]; rfl

theorem index_u8 (F : Nat) (a : List Int) (ha : a.length ≤ 100) (φ : Int → Option Bool) (p : Int → Bool) (hφ : ∀ x, φ x = some (p x)) : ∀ (us pa : List Int) (n : Nat), a = pa ++ us → us.length < n → ∃ k, slices_IndexFunc_uint8_uint8_L0 F a φ n (pa.length : Int) = some k ∧ (0 ≤ k ↔ us.any p = true)
  | [], pa, n, h, hn => by
    cases n with
    | zero => omega
    | succ n =>
      refine ⟨-1, ?_, by simp⟩
      rw [slices_IndexFunc_uint8_uint8_L0]
      rw [show (a.length : Int) = (pa.length : Int) by rw [h]; simp]
      simp
  | x :: us, pa, n, h, hn => by
    cases n with
    | zero => omega
    | succ n =>
      have h1 : a.length = pa.length + (us.length + 1) := by rw [h]; simp
      obtain ⟨k, hk, hi⟩ := index_u8 F a ha φ p hφ us (pa ++ [x]) n (by simp [h]) (by simp at hn; omega)
      rw [slices_IndexFunc_uint8_uint8_L0]
      have hlt : decide ((pa.length : Int) < (a.length : Int)) = true := by simp; omega
      rw [hlt, show idx a (pa.length : Int) = some x by rw [h]; exact idx_mid _ _ _]
      simp only [cond_true, Option.bind_some, hφ]
      cases hp : p x with
      | true => exact ⟨_, rfl, by simp [hp]⟩
      | false =>
        rw [wrapS _ (by omega)]
        exact ⟨k, by simpa using hk, by simpa [hp] using hi⟩

theorem powers_ok (F : Nat) (hF : 100 ≤ F) (a : Arr 12 Int) : poly_powers_fit F a = some (a.1.all (fun e => decide (e ≤ 6))) := by
  unfold poly_powers_fit slices_ContainsFunc_uint8_uint8 slices_IndexFunc_uint8_uint8
  obtain ⟨k, hk, hi⟩ := index_u8 F a.1 (by rw [a.2]; omega) (fun y0 => poly_powers_fit_1 F y0) (fun e => decide (6 < e)) (fun x => rfl) a.1 [] F rfl (by rw [a.2]; omega)
  simp only [List.length_nil] at hk
  rw [show ((0 : Nat) : Int) = 0 from rfl] at hk
  simp only [hk, Option.bind_some]
  congr 1
  have : decide (0 ≤ k) = a.1.any (fun e => decide (6 < e)) := by
    cases h : a.1.any (fun e => decide (6 < e)) with
    | true => rw [h] at hi; simpa using hi
    | false => rw [h] at hi; simpa using hi
  rw [this, List.not_any_eq_all_not]
  congr 2
  funext e
  by_cases he : 6 < e
  · have : ¬ e ≤ 6 := by omega
    simp [he, this]
  · have : e ≤ 6 := by omega
    simp [he, this]

theorem pfit_loop (F : Nat) (hF : 100 ≤ F) (p : List api_Term) (hp : p.length ≤ 64) : ∀ (l pre : List api_Term) (n : Nat), p = pre ++ l → l.length < n → poly_Fit_L0 F p n (pre.length : Int) = some (chk pre.getLast? l)
  | [], pre, n, h, hn => by
    cases n with
    | zero => omega
    | succ n => subst h; rw [poly_Fit_L0]; simp [chk]
  | t :: l, pre, n, h, hn => by
    cases n with
    | zero => omega
    | succ n =>
      have ih := pfit_loop F hF p hp l (pre ++ [t]) n (by simp [h]) (by simp at hn; omega)
      have hg : (pre ++ [t]).getLast? = some t := by simp
      rw [hg] at ih
      have hlen : pre.length < p.length := by rw [h]; simp
      have hidx : idx p (pre.length : Int) = some t := by rw [h]; exact idx_mid _ _ _
      simp only [List.length_append, List.length_singleton] at ih
      rw [poly_Fit_L0]
      have hlt : decide ((pre.length : Int) < (p.length : Int)) = true := by simp; omega
      rw [hlt]
      simp only [cond_true, hidx, Option.bind_some, joinM, chk, okT, wrapS _ (show pre.length < 9223372036854775807 by omega), ih, powers_ok F hF]
      by_cases c1 : t.Coef < 1
      · have : ¬ 1 ≤ t.Coef := by omega
        simp [c1, this]
      · by_cases c2 : 1099511627776 < t.Coef
        · have : ¬ t.Coef ≤ 1099511627776 := by omega
          simp [c1, c2, this]
        · have d1 : 1 ≤ t.Coef := by omega
          have d2 : t.Coef ≤ 1099511627776 := by omega
          simp only [c1, c2, d1, d2, decide_false, decide_true, cond_false, Bool.true_and, Bool.or_false]
          cases hall : t.Exps.1.all (fun e => decide (e ≤ 6)) with
          | false => simp [key, hall]
          | true =>
            simp only [key, hall, Bool.not_true, cond_false, Bool.true_and]
            cases hq : pre.getLast? with
            | none =>
              have : pre = [] := List.getLast?_eq_none_iff.1 hq
              subst this
              simp
            | some s =>
              obtain ⟨pre', hpre⟩ := List.getLast?_eq_some_iff.1 hq
              have hl2 : pre.length = pre'.length + 1 := by rw [hpre]; simp only [List.length_append, List.length_singleton]
              have hpos : (0 : Int) < (pre.length : Int) := by omega
              have hw : IntKind.i64.wrap ((pre.length : Int) - 1) = (pre'.length : Int) := by
                rw [hl2, show (((pre'.length + 1 : Nat) : Int) - 1) = (pre'.length : Int) by omega]
                exact wrap_ok (by omega) (by omega)
              have hs : idx p (pre'.length : Int) = some s := by rw [h, hpre, List.append_assoc]; exact idx_mid _ _ _
              simp only [hpos, decide_true, cond_true, hw, hs, Option.bind_some, compare_ok F hF]
              have hc := cmpL_lt (a := s.Exps.1) (b := t.Exps.1) (by rw [s.Exps.2, t.Exps.2])
              cases hlts : ltL s.Exps.1 t.Exps.1 with
              | false => rw [hlts] at hc; simp at hc; simp [hc]
              | true =>
                rw [hlts] at hc; simp at hc
                have : ¬ 0 ≤ cmpL s.Exps.1 t.Exps.1 := by omega
                simp [this]
theorem pfit_ok (F : Nat) (hF : 100 ≤ F) (p : List api_Term) : poly_Fit F p = some (fitB p) := by
  unfold poly_Fit fitB
  by_cases h : 64 < (p.length : Int)
  · have : ¬ p.length ≤ 64 := by omega
    simp [h, this]
  · have hl : p.length ≤ 64 := by omega
    have := pfit_loop F hF p hl p [] F rfl (by omega)
    simp only [h, decide_false, cond_false, hl, decide_true, Bool.true_and]
    simpa using this
theorem checked_ok (F : Nat) (hF : 100 ≤ F) (p : List api_Term) : poly_checked F p = some (if fitB p = true then (p, 0) else ([], 17)) := by
  unfold poly_checked
  rw [pfit_ok F hF]
  cases fitB p <;> rfl

theorem app_ok {α : Type} {b : Nat} {xs ys : List α} (h : (xs.length + ys.length) * b ≤ roomMax) (hb : 1 ≤ b) : appM b xs ys = some (xs ++ ys) := by
  unfold appM
  rw [if_pos ⟨h, by
    have := Nat.mul_le_mul_left (xs.length + ys.length) hb
    omega⟩]
theorem sub_tail {α : Type} (t : α) (l : List α) : subM (t :: l) 1 ((t :: l).length : Int) = some l := by
  unfold subM
  rw [if_pos ⟨by omega, by simp; omega, by simp⟩]
  simp

/-- The sum of a function's values, by the terms. -/
def dot (g : List Int → Int) : List api_Term → Int
  | [] => 0
  | t :: l => t.Coef * g (key t) + dot g l
theorem dot_append (g : List Int → Int) : ∀ (a b : List api_Term), dot g (a ++ b) = dot g a + dot g b
  | [], b => by simp [dot]
  | t :: a, b => by simp only [List.cons_append, dot, dot_append g a b]; omega

def ind (k : List Int) : List Int → Int := fun j => if j = k then 1 else 0
abbrev coef (l : List api_Term) (k : List Int) : Int := dot (ind k) l
theorem coef_cons (t : api_Term) (l : List api_Term) (k : List Int) : coef (t :: l) k = (if key t = k then t.Coef else 0) + coef l k := by
  simp only [coef, dot, ind]; split <;> simp

def Pos (l : List api_Term) : Prop := ∀ t ∈ l, 1 ≤ t.Coef
def Srt (l : List api_Term) : Prop := l.Pairwise (fun s t => ltL (key s) (key t) = true)
theorem Pos.tail {t : api_Term} {l : List api_Term} (h : Pos (t :: l)) : Pos l := fun s hs => h s (List.mem_cons_of_mem _ hs)
theorem Pos.append {a b : List api_Term} (h : Pos a) (g : Pos b) : Pos (a ++ b) := fun s hs => (List.mem_append.1 hs).elim (h s) (g s)
theorem coef_nonneg {l : List api_Term} (h : Pos l) (k : List Int) : 0 ≤ coef l k := by
  induction l with
  | nil => simp [coef, dot]
  | cons t l ih =>
    rw [coef_cons]
    have := ih h.tail
    have := h t List.mem_cons_self
    split <;> omega
theorem coef_none {l : List api_Term} {k : List Int} (h : ∀ t ∈ l, key t ≠ k) : coef l k = 0 := by
  induction l with
  | nil => rfl
  | cons t l ih =>
    rw [coef_cons, if_neg (h t List.mem_cons_self), ih (fun s hs => h s (List.mem_cons_of_mem _ hs))]; rfl
theorem coef_head {t : api_Term} {l : List api_Term} (h : Srt (t :: l)) : coef (t :: l) (key t) = t.Coef := by
  rw [coef_cons, if_pos rfl, coef_none (fun s hs => ?_)]
  · omega
  · have := (List.pairwise_cons.1 h).1 s hs
    exact fun e => ltL_ne this e.symm

/-- One form. -/
theorem sum_ext : ∀ {p q : List api_Term}, Srt p → Srt q → Pos p → Pos q → (∀ k, coef p k = coef q k) → p = q
  | [], [], _, _, _, _, _ => rfl
  | [], t :: q, _, hq, _, gq, h => by
    have h1 := h (key t)
    rw [coef_head hq] at h1
    have := gq t List.mem_cons_self
    simp [coef, dot] at h1; omega
  | s :: p, [], hp, _, gp, _, h => by
    have h1 := h (key s)
    rw [coef_head hp] at h1
    have := gp s List.mem_cons_self
    simp [coef, dot] at h1; omega
  | s :: p, t :: q, hp, hq, gp, gq, h => by
    have hs := gp s List.mem_cons_self
    have ht := gq t List.mem_cons_self
    have below : ∀ {a b : api_Term} {l : List api_Term}, Srt (b :: l) → ltL (key a) (key b) = true → coef (b :: l) (key a) = 0 := by
      intro a b l hb hab
      refine coef_none (fun x hx => ?_)
      rcases List.mem_cons.1 hx with rfl | hx
      · exact fun e => ltL_ne hab e.symm
      · exact fun e => ltL_ne (ltL_trans hab ((List.pairwise_cons.1 hb).1 x hx)) e.symm
    by_cases e : key s = key t
    · have h1 := h (key s)
      rw [coef_head hp, e, coef_head hq] at h1
      have hst : s = t := term_ext e h1
      subst hst
      have : p = q := sum_ext (List.pairwise_cons.1 hp).2 (List.pairwise_cons.1 hq).2 gp.tail gq.tail (fun k => by
        have := h k
        rw [coef_cons, coef_cons] at this; omega)
      rw [this]
    · cases hl : ltL (key s) (key t) with
      | true =>
        have h1 := h (key s)
        rw [coef_head hp, below hq hl] at h1; omega
      | false =>
        have hl2 := ltL_tri (by rw [key_len, key_len]) e hl
        have h1 := h (key t)
        rw [coef_head hq, below hp hl2] at h1; omega

/-- Two rows that rise, as one. -/
def mrg (one : api_Term → api_Term → api_Term) : List api_Term → List api_Term → List api_Term
  | [], b => b
  | s :: a, [] => s :: a
  | s :: a, t :: b => if cmpL (key s) (key t) < 0 then s :: mrg one a (t :: b) else if 0 < cmpL (key s) (key t) then t :: mrg one (s :: a) b else one s t :: mrg one a b
termination_by a b => a.length + b.length

theorem mrg_nil (one : api_Term → api_Term → api_Term) (a : List api_Term) : mrg one a [] = a := by cases a <;> simp [mrg]

theorem merged_loop (F : Nat) (φ2 : api_Term → api_Term → Option Int) (φ3 : api_Term → api_Term → Option api_Term) (one : api_Term → api_Term → api_Term) (h2 : ∀ s t, φ2 s t = some (cmpL (key s) (key t))) :
    ∀ (n : Nat) (a b out : List api_Term), (∀ s ∈ a, ∀ t ∈ b, φ3 s t = some (one s t)) → a.length + b.length < n → out.length + a.length + b.length ≤ 1000000 →
    poly_merged_api_Term_L0 F φ2 φ3 (fun v2 v3 v5 => (appM 24 v5 v2).bind fun x38 => (appM 24 x38 v3).bind fun x40 => some x40) n a b out = some (out ++ mrg one a b)
  | 0, a, b, out, h3, hn, hl => by omega
  | n + 1, a, b, out, h3, hn, hl => by
    have hroom : ∀ (xs ys : List api_Term), xs.length + ys.length ≤ 1000000 → appM 24 xs ys = some (xs ++ ys) := fun xs ys h => app_ok (by simp [roomMax]; omega) (by omega)
    rw [poly_merged_api_Term_L0]
    cases a with
    | nil =>
      simp only [List.length_nil, mrg] at hl ⊢
      rw [hroom out [] (by simp; omega)]
      simp only [Int.natCast_zero, Int.lt_irrefl, decide_false, Bool.false_and, cond_false, Option.bind_some, List.append_nil]
      rw [hroom out b (by omega)]; rfl
    | cons s a =>
      cases b with
      | nil =>
        simp only [List.length_nil, mrg] at hl ⊢
        rw [hroom out (s :: a) (by omega)]
        simp only [Int.natCast_zero, Int.lt_irrefl, decide_false, Bool.and_false, cond_false, Option.bind_some]
        rw [hroom _ [] (by simp at hl ⊢; omega)]; simp
      | cons t b =>
        have c1 : (decide (0 < ((s :: a).length : Int)) && decide (0 < ((t :: b).length : Int))) = true := by simp
        simp only [c1, cond_true, idx_zero, Option.bind_some, h2, sub_tail, mrg]
        simp only [List.length_cons] at hn hl
        by_cases k1 : cmpL (key s) (key t) < 0
        · rw [if_pos k1]
          simp only [k1, decide_true, cond_true]
          rw [hroom out [s] (by simp; omega)]
          simp only [Option.bind_some]
          rw [merged_loop F φ2 φ3 one h2 n a (t :: b) (out ++ [s]) (fun x hx y hy => h3 x (List.mem_cons_of_mem _ hx) y hy) (by simp; omega) (by simp; omega)]
          simp
        · rw [if_neg k1]
          simp only [k1, decide_false, cond_false]
          by_cases k2 : 0 < cmpL (key s) (key t)
          · rw [if_pos k2]
            simp only [k2, decide_true, cond_true]
            rw [hroom out [t] (by simp; omega)]
            simp only [Option.bind_some]
            rw [merged_loop F φ2 φ3 one h2 n (s :: a) b (out ++ [t]) (fun x hx y hy => h3 x hx y (List.mem_cons_of_mem _ hy)) (by simp; omega) (by simp; omega)]
            simp
          · rw [if_neg k2]
            simp only [k2, decide_false, cond_false, h3 s List.mem_cons_self t List.mem_cons_self, Option.bind_some]
            rw [hroom out [one s t] (by simp; omega)]
            simp only [Option.bind_some]
            rw [merged_loop F φ2 φ3 one h2 n a b (out ++ [one s t]) (fun x hx y hy => h3 x (List.mem_cons_of_mem _ hx) y (List.mem_cons_of_mem _ hy)) (by omega) (by simp; omega)]
            simp

theorem merged_ok (F : Nat) (hF : 1000 ≤ F) (a b : List api_Term) (φ3 : api_Term → api_Term → Option api_Term) (one : api_Term → api_Term → api_Term) (h3 : ∀ s ∈ a, ∀ t ∈ b, φ3 s t = some (one s t)) (hl : a.length + b.length ≤ 500) :
    poly_merged_api_Term F a b (fun y0 y1 => poly_order F y0 y1) φ3 = some (mrg one a b) := by
  unfold poly_merged_api_Term joinM
  dsimp only
  rw [merged_loop F _ φ3 one (fun s t => order_ok F (by omega) s t) F a b [] h3 (by omega) (by simp; omega)]
  simp

section
variable {one : api_Term → api_Term → api_Term} (hone : ∀ s t, key (one s t) = key s)
include hone
theorem mrg_keys : ∀ (a b : List api_Term) (x : api_Term), x ∈ mrg one a b → (∃ s ∈ a, key x = key s) ∨ (∃ t ∈ b, key x = key t)
  | [], b, x, h => by simp only [mrg] at h; exact .inr ⟨x, h, rfl⟩
  | s :: a, [], x, h => by simp only [mrg] at h; exact .inl ⟨x, h, rfl⟩
  | s :: a, t :: b, x, h => by
    rw [mrg] at h
    split at h
    · rcases List.mem_cons.1 h with rfl | h
      · exact .inl ⟨_, List.mem_cons_self, rfl⟩
      · rcases mrg_keys a (t :: b) x h with ⟨y, hy, e⟩ | ⟨y, hy, e⟩
        · exact .inl ⟨y, List.mem_cons_of_mem _ hy, e⟩
        · exact .inr ⟨y, hy, e⟩
    · split at h
      · rcases List.mem_cons.1 h with rfl | h
        · exact .inr ⟨_, List.mem_cons_self, rfl⟩
        · rcases mrg_keys (s :: a) b x h with ⟨y, hy, e⟩ | ⟨y, hy, e⟩
          · exact .inl ⟨y, hy, e⟩
          · exact .inr ⟨y, List.mem_cons_of_mem _ hy, e⟩
      · rcases List.mem_cons.1 h with rfl | h
        · exact .inl ⟨s, List.mem_cons_self, hone s t⟩
        · rcases mrg_keys a b x h with ⟨y, hy, e⟩ | ⟨y, hy, e⟩
          · exact .inl ⟨y, List.mem_cons_of_mem _ hy, e⟩
          · exact .inr ⟨y, List.mem_cons_of_mem _ hy, e⟩
termination_by a b => a.length + b.length

theorem mrg_srt : ∀ (a b : List api_Term), Srt a → Srt b → Srt (mrg one a b)
  | [], b, _, hb => by simp only [mrg]; exact hb
  | s :: a, [], ha, _ => by simp only [mrg]; exact ha
  | s :: a, t :: b, ha, hb => by
    have hlen : (key s).length = (key t).length := by rw [key_len, key_len]
    have ha1 := (List.pairwise_cons.1 ha).1
    have hb1 := (List.pairwise_cons.1 hb).1
    rw [mrg]
    split
    · rename_i c
      have c := (cmpL_lt hlen).1 c
      refine List.pairwise_cons.2 ⟨fun x hx => ?_, mrg_srt a (t :: b) (List.pairwise_cons.1 ha).2 hb⟩
      rcases mrg_keys hone a (t :: b) x hx with ⟨y, hy, e⟩ | ⟨y, hy, e⟩
      · rw [e]; exact ha1 y hy
      · rw [e]
        rcases List.mem_cons.1 hy with rfl | hy
        · exact c
        · exact ltL_trans c (hb1 y hy)
    · rename_i c0
      split
      · rename_i c
        have c := (cmpL_gt hlen).1 c
        refine List.pairwise_cons.2 ⟨fun x hx => ?_, mrg_srt (s :: a) b ha (List.pairwise_cons.1 hb).2⟩
        rcases mrg_keys hone (s :: a) b x hx with ⟨y, hy, e⟩ | ⟨y, hy, e⟩
        · rw [e]
          rcases List.mem_cons.1 hy with rfl | hy
          · exact c
          · exact ltL_trans c (ha1 y hy)
        · rw [e]; exact hb1 y hy
      · rename_i c1
        have ek := cmpL_eq hlen c0 c1
        refine List.pairwise_cons.2 ⟨fun x hx => ?_, mrg_srt a b (List.pairwise_cons.1 ha).2 (List.pairwise_cons.1 hb).2⟩
        rw [hone]
        rcases mrg_keys hone a b x hx with ⟨y, hy, e⟩ | ⟨y, hy, e⟩
        · rw [e]; exact ha1 y hy
        · rw [e, ek]; exact hb1 y hy
termination_by a b => a.length + b.length
end

/-- Two like terms as one. -/
def addT (s t : api_Term) : api_Term := { s with Coef := s.Coef + t.Coef }
theorem dot_mrg (g : List Int → Int) : ∀ (a b : List api_Term), dot g (mrg addT a b) = dot g a + dot g b
  | [], b => by simp [mrg, dot]
  | s :: a, [] => by simp [mrg, dot]
  | s :: a, t :: b => by
    have hlen : (key s).length = (key t).length := by rw [key_len, key_len]
    rw [mrg]
    split
    · simp only [dot, dot_mrg g a (t :: b)]; omega
    · rename_i c0
      split
      · simp only [dot, dot_mrg g (s :: a) b]; omega
      · rename_i c1
        have ek := cmpL_eq hlen c0 c1
        simp only [dot, dot_mrg g a b, addT]
        rw [show key { s with Coef := s.Coef + t.Coef } = key s from rfl, ← ek, Int.add_mul]; omega
termination_by a b => a.length + b.length
theorem mrg_pos : ∀ (a b : List api_Term), Pos a → Pos b → Pos (mrg addT a b)
  | [], b, _, hb => by simp only [mrg]; exact hb
  | s :: a, [], ha, _ => by simp only [mrg]; exact ha
  | s :: a, t :: b, ha, hb => by
    have hs := ha s List.mem_cons_self
    have ht := hb t List.mem_cons_self
    rw [mrg]
    split
    · intro x hx
      rcases List.mem_cons.1 hx with rfl | hx
      · exact hs
      · exact mrg_pos a (t :: b) ha.tail hb x hx
    · split
      · intro x hx
        rcases List.mem_cons.1 hx with rfl | hx
        · exact ht
        · exact mrg_pos (s :: a) b ha hb.tail x hx
      · intro x hx
        rcases List.mem_cons.1 hx with rfl | hx
        · show 1 ≤ s.Coef + t.Coef; omega
        · exact mrg_pos a b ha.tail hb.tail x hx
termination_by a b => a.length + b.length

/-- What stands in one of two rows stands in both as one, and is no less. -/
theorem mrg_more : ∀ (a b : List api_Term), Pos a → Pos b → a.length ≤ (mrg addT a b).length ∧ ∀ s ∈ a, ∃ x ∈ mrg addT a b, key x = key s ∧ s.Coef ≤ x.Coef
  | [], b, _, hb => by simp [mrg]
  | s :: a, [], ha, _ => by simp only [mrg]; exact ⟨Nat.le_refl _, fun x hx => ⟨x, hx, rfl, Int.le_refl _⟩⟩
  | s :: a, t :: b, ha, hb => by
    have ht := hb t List.mem_cons_self
    rw [mrg]
    split
    · obtain ⟨h1, h2⟩ := mrg_more a (t :: b) ha.tail hb
      refine ⟨by simp; exact h1, fun x hx => ?_⟩
      rcases List.mem_cons.1 hx with rfl | hx
      · exact ⟨_, List.mem_cons_self, rfl, Int.le_refl _⟩
      · obtain ⟨y, hy, e⟩ := h2 x hx; exact ⟨y, List.mem_cons_of_mem _ hy, e⟩
    · split
      · obtain ⟨h1, h2⟩ := mrg_more (s :: a) b ha hb.tail
        refine ⟨by simp at h1 ⊢; omega, fun x hx => ?_⟩
        obtain ⟨y, hy, e⟩ := h2 x hx; exact ⟨y, List.mem_cons_of_mem _ hy, e⟩
      · obtain ⟨h1, h2⟩ := mrg_more a b ha.tail hb.tail
        refine ⟨by simp; exact h1, fun x hx => ?_⟩
        rcases List.mem_cons.1 hx with rfl | hx
        · exact ⟨_, List.mem_cons_self, rfl, by show x.Coef ≤ x.Coef + t.Coef; omega⟩
        · obtain ⟨y, hy, e⟩ := h2 x hx; exact ⟨y, List.mem_cons_of_mem _ hy, e⟩
termination_by a b => a.length + b.length

theorem chk_some : ∀ (l : List api_Term) (s : api_Term), chk (some s) l = true ↔ (∀ t ∈ l, okT t = true) ∧ Srt (s :: l)
  | [], s => by simp [chk, Srt]
  | t :: l, s => by
    simp only [chk, Bool.and_eq_true, chk_some l t]
    constructor
    · rintro ⟨⟨h1, h2⟩, h3, h4⟩
      refine ⟨fun x hx => ?_, List.pairwise_cons.2 ⟨fun x hx => ?_, h4⟩⟩
      · rcases List.mem_cons.1 hx with rfl | hx
        · exact h1
        · exact h3 x hx
      · rcases List.mem_cons.1 hx with rfl | hx
        · exact h2
        · exact ltL_trans h2 ((List.pairwise_cons.1 h4).1 x hx)
    · rintro ⟨h1, h2⟩
      obtain ⟨h3, h4⟩ := List.pairwise_cons.1 h2
      exact ⟨⟨h1 t List.mem_cons_self, h3 t List.mem_cons_self⟩, fun x hx => h1 x (List.mem_cons_of_mem _ hx), h4⟩
theorem fit_iff (p : List api_Term) : fitB p = true ↔ p.length ≤ 64 ∧ (∀ t ∈ p, okT t = true) ∧ Srt p := by
  unfold fitB
  rw [Bool.and_eq_true, decide_eq_true_eq]
  cases p with
  | nil => simp [chk, Srt]
  | cons t l =>
    simp only [chk, Bool.and_true, Bool.and_eq_true, chk_some]
    constructor
    · rintro ⟨h1, h2, h3, h4⟩
      refine ⟨h1, fun x hx => ?_, h4⟩
      rcases List.mem_cons.1 hx with rfl | hx
      · exact h2
      · exact h3 x hx
    · rintro ⟨h1, h2, h3⟩
      exact ⟨h1, h2 t List.mem_cons_self, fun x hx => h2 x (List.mem_cons_of_mem _ hx), h3⟩
theorem okT_iff (t : api_Term) : okT t = true ↔ 1 ≤ t.Coef ∧ t.Coef ≤ 1099511627776 ∧ ∀ e ∈ key t, e ≤ 6 := by
  simp [okT, and_assoc]
theorem fit_pos {p : List api_Term} (h : fitB p = true) : Pos p := fun t ht => ((okT_iff t).1 (((fit_iff p).1 h).2.1 t ht)).1
theorem fit_srt {p : List api_Term} (h : fitB p = true) : Srt p := ((fit_iff p).1 h).2.2

/-- A row of terms in its one form. -/
def norm : List api_Term → List api_Term
  | [] => []
  | t :: l => mrg addT [t] (norm l)
theorem norm_srt : ∀ (l : List api_Term), Srt (norm l)
  | [] => .nil
  | t :: l => mrg_srt (one := addT) (fun _ _ => rfl) _ _ (List.pairwise_singleton _ _) (norm_srt l)
theorem norm_pos : ∀ {l : List api_Term}, Pos l → Pos (norm l)
  | [], h => h
  | t :: l, h => mrg_pos _ _ (fun s hs => by rw [List.mem_singleton.1 hs]; exact h t List.mem_cons_self) (norm_pos h.tail)
theorem norm_dot (g : List Int → Int) : ∀ (l : List api_Term), dot g (norm l) = dot g l
  | [] => rfl
  | t :: l => by rw [norm, dot_mrg, norm_dot g l]; simp [dot]
/-- What is sorted and has the same numbers is the form. -/
theorem norm_eq {l p : List api_Term} (hl : Pos l) (h1 : Srt p) (h2 : Pos p) (h3 : ∀ k, coef p k = coef l k) : norm l = p :=
  sum_ext (norm_srt l) h1 (norm_pos hl) h2 (fun k => by rw [h3]; exact norm_dot _ l)
theorem norm_congr {l m : List api_Term} (hl : Pos l) (hm : Pos m) (h : ∀ k, coef l k = coef m k) : norm l = norm m :=
  norm_eq hl (norm_srt m) (norm_pos hm) (fun k => by rw [h]; exact norm_dot _ m)
theorem norm_fit {p : List api_Term} (h : fitB p = true) : norm p = p := norm_eq (fit_pos h) (fit_srt h) (fit_pos h) (fun _ => rfl)
theorem norm_append {l m : List api_Term} (hl : Pos l) (hm : Pos m) : norm (l ++ m) = mrg addT (norm l) (norm m) :=
  norm_eq (hl.append hm) (mrg_srt (one := addT) (fun _ _ => rfl) _ _ (norm_srt l) (norm_srt m)) (mrg_pos _ _ (norm_pos hl) (norm_pos hm)) (fun k => by
    show dot _ _ = dot _ _
    rw [dot_mrg, norm_dot, norm_dot, dot_append])
/-- A part of what can be can be. -/
theorem fit_part {l m : List api_Term} (hl : Pos l) (hm : Pos m) (h : fitB (norm (l ++ m)) = true) : fitB (norm l) = true := by
  rw [norm_append hl hm] at h
  obtain ⟨h1, h2, h3⟩ := (fit_iff _).1 h
  obtain ⟨g1, g2⟩ := mrg_more (norm l) (norm m) (norm_pos hl) (norm_pos hm)
  refine (fit_iff _).2 ⟨by omega, fun t ht => ?_, norm_srt l⟩
  obtain ⟨x, hx, e1, e2⟩ := g2 t ht
  obtain ⟨q1, q2, q3⟩ := (okT_iff x).1 (h2 x hx)
  exact (okT_iff t).2 ⟨norm_pos hl t ht, by omega, by rw [← e1]; exact q3⟩

/-- What a sum comes to. -/
def Res (l : List api_Term) : List api_Term × Int := if fitB (norm l) = true then (norm l, 0) else ([], 17)
theorem Res_congr {l m : List api_Term} (hl : Pos l) (hm : Pos m) (h : ∀ k, coef l k = coef m k) : Res l = Res m := by
  unfold Res; rw [norm_congr hl hm h]

theorem add_ok (F : Nat) (hF : 1000 ≤ F) {a b : List api_Term} (ha : fitB a = true) (hb : fitB b = true) : poly_Add F a b = some (Res (a ++ b)) := by
  have la := ((fit_iff a).1 ha).1
  have lb := ((fit_iff b).1 hb).1
  unfold poly_Add
  rw [merged_ok F hF a b _ addT (fun s hs t ht => ?_) (by omega)]
  · have hn : norm (a ++ b) = mrg addT a b := by rw [norm_append (fit_pos ha) (fit_pos hb), norm_fit ha, norm_fit hb]
    simp only [Option.bind_some, checked_ok F (by omega), Res, hn]
  · obtain ⟨a1, a2, _⟩ := (okT_iff s).1 (((fit_iff a).1 ha).2.1 s hs)
    obtain ⟨b1, b2, _⟩ := (okT_iff t).1 (((fit_iff b).1 hb).2.1 t ht)
    unfold poly_added addT
    rw [wrap_ok (by omega) (by omega)]

/-- No exponent below zero. -/
def NN (l : List api_Term) : Prop := ∀ t ∈ l, ∀ e ∈ key t, 0 ≤ e
theorem NN.tail {t : api_Term} {l : List api_Term} (h : NN (t :: l)) : NN l := fun s hs => h s (List.mem_cons_of_mem _ hs)
theorem NN.append {a b : List api_Term} (h : NN a) (g : NN b) : NN (a ++ b) := fun s hs => (List.mem_append.1 hs).elim (h s) (g s)
theorem norm_keys : ∀ (l : List api_Term) (x : api_Term), x ∈ norm l → ∃ s ∈ l, key x = key s
  | [], x, h => by cases h
  | t :: l, x, h => by
    rcases mrg_keys (one := addT) (fun _ _ => rfl) _ _ x h with ⟨y, hy, e⟩ | ⟨y, hy, e⟩
    · rw [List.mem_singleton] at hy; subst hy; exact ⟨y, List.mem_cons_self, e⟩
    · obtain ⟨z, hz, e'⟩ := norm_keys l y hy
      exact ⟨z, List.mem_cons_of_mem _ hz, e.trans e'⟩
theorem norm_nn {l : List api_Term} (h : NN l) : NN (norm l) := fun x hx e he => by
  obtain ⟨s, hs, e'⟩ := norm_keys l x hx
  rw [e'] at he; exact h s hs e he

/-- A sum that can be. -/
structure Good (p : List api_Term) : Prop where
  fit : fitB p = true
  nn : NN p
theorem Good.pos {p : List api_Term} (h : Good p) : Pos p := fit_pos h.fit
theorem Good.srt {p : List api_Term} (h : Good p) : Srt p := fit_srt h.fit
theorem Good.len {p : List api_Term} (h : Good p) : p.length ≤ 64 := ((fit_iff p).1 h.fit).1
theorem Good.norm {p : List api_Term} (h : Good p) : norm p = p := norm_fit h.fit
theorem Good.exps {p : List api_Term} (h : Good p) {t : api_Term} (ht : t ∈ p) : ∀ e ∈ key t, 0 ≤ e ∧ e ≤ 6 := fun e he =>
  ⟨h.nn t ht e he, ((okT_iff t).1 (((fit_iff p).1 h.fit).2.1 t ht)).2.2 e he⟩
theorem Good.coef {p : List api_Term} (h : Good p) {t : api_Term} (ht : t ∈ p) : 1 ≤ t.Coef ∧ t.Coef ≤ 1099511627776 := by
  obtain ⟨a, b, _⟩ := (okT_iff t).1 (((fit_iff p).1 h.fit).2.1 t ht); exact ⟨a, b⟩
theorem good_nil : Good [] := ⟨rfl, fun t h => by cases h⟩

theorem res_good {l : List api_Term} (h : NN l) : Good (Res l).1 := by
  unfold Res; split
  · rename_i hf; exact ⟨hf, norm_nn h⟩
  · exact good_nil
theorem res_yes {l : List api_Term} (h : fitB (norm l) = true) : Res l = (norm l, 0) := by unfold Res; rw [if_pos h]
theorem res_no {l : List api_Term} (h : fitB (norm l) = false) : Res l = ([], 17) := by unfold Res; rw [h]; rfl
theorem res_zero {l : List api_Term} (h : (Res l).2 = 0) : fitB (norm l) = true ∧ (Res l).1 = norm l := by
  cases hf : fitB (norm l) with
  | true => rw [res_yes hf]; exact ⟨rfl, rfl⟩
  | false => rw [res_no hf] at h; cases h
/-- A part of what can be can be. -/
theorem fit_sub {l m r : List api_Term} (hl : Pos l) (hm : Pos m) (hr : Pos r) (h : ∀ k, coef m k = coef l k + coef r k) (hf : fitB (norm m) = true) : fitB (norm l) = true := by
  rw [norm_congr hm (hl.append hr) (fun k => by rw [h k]; exact (dot_append _ _ _).symm)] at hf
  exact fit_part hl hr hf

def mulT (s t : api_Term) : api_Term := ⟨⟨List.zipWith (· + ·) (key s) (key t), by rw [List.length_zipWith, key_len, key_len]; rfl⟩, s.Coef * t.Coef⟩

theorem quo_ok {c : Int} (h1 : 1 ≤ c) : quoM .i64 1099511627776 c = some (1099511627776 / c) := by
  unfold quoM
  rw [if_neg (by omega), Int.tdiv_eq_ediv_of_nonneg (by omega)]
  have h2 : 0 ≤ 1099511627776 / c := Int.ediv_nonneg (by omega) (by omega)
  have h3 : 1099511627776 / c ≤ 1099511627776 := Int.ediv_le_self _ (by omega)
  rw [wrap_ok (by omega) (by omega)]
theorem quo_lt {c x : Int} (h1 : 1 ≤ c) : (1099511627776 / c < x) ↔ 1099511627776 < x * c := by
  have := Int.le_ediv_iff_mul_le (a := x) (b := 1099511627776) (show 0 < c by omega)
  omega

theorem wrap_u8 {x : Int} (h1 : 0 ≤ x) (h2 : x ≤ 255) : IntKind.u8.wrap x = x := by
  simp [IntKind.wrap, IntKind.signed, IntKind.bits]; omega

theorem set_mid {α : Type} (pre : List α) (x y : α) (l : List α) : (pre ++ x :: l).set pre.length y = pre ++ y :: l := by
  rw [List.set_append_right _ _ (Nat.le_refl _)]; simp

theorem scaled_exps (F : Nat) (t : api_Term) (K : api_Term → Option (List api_Term × Bool)) : ∀ (us bs pa pb : List Int) (n : Nat) (w : api_Term), key w = pa ++ us → key t = pb ++ bs → pa.length = pb.length → us.length < n →
    (∀ e ∈ us, 0 ≤ e ∧ e ≤ 6) → (∀ e ∈ bs, 0 ≤ e ∧ e ≤ 6) → ∃ w', poly_scaled_L1 F t K n (pa.length : Int) w = K w' ∧ key w' = pa ++ List.zipWith (· + ·) us bs ∧ w'.Coef = w.Coef
  | [], bs, pa, pb, n, w, hw, ht, hl, hn, _, _ => by
    cases n with
    | zero => omega
    | succ n =>
      have h1 := key_len w; rw [hw] at h1; simp at h1
      refine ⟨w, ?_, by simpa using hw, rfl⟩
      rw [poly_scaled_L1]
      simp [h1]
  | x :: us, bs, pa, pb, n, w, hw, ht, hl, hn, hu, hb => by
    cases n with
    | zero => omega
    | succ n =>
      have h1 := key_len w; rw [hw] at h1; simp at h1
      have h2 := key_len t; rw [ht] at h2; simp at h2
      cases bs with
      | nil => simp at h2; omega
      | cons y bs =>
        obtain ⟨u1, u2⟩ := hu x List.mem_cons_self
        obtain ⟨v1, v2⟩ := hb y List.mem_cons_self
        rw [poly_scaled_L1]
        have hlt : decide ((pa.length : Int) < 12) = true := by simp; omega
        rw [hlt, show w.Exps.1 = pa ++ x :: us from hw, show t.Exps.1 = pb ++ y :: bs from ht, idx_mid, hl, idx_mid, ← hl]
        simp only [cond_true, Option.bind_some, wrapS _ (show pa.length < 9223372036854775807 by omega), wrap_u8 (show 0 ≤ x + y by omega) (by omega)]
        obtain ⟨w', e1, e2, e3⟩ := scaled_exps F t K us bs (pa ++ [x + y]) (pb ++ [y]) n { w with Exps := w.Exps.set (pa.length : Int) (x + y) } (by
          show w.Exps.1.set _ _ = _
          rw [show w.Exps.1 = pa ++ x :: us from hw, Int.toNat_natCast, set_mid]; simp) (by simp [ht]) (by simp [hl]) (by simp at hn; omega)
          (fun e he => hu e (List.mem_cons_of_mem _ he)) (fun e he => hb e (List.mem_cons_of_mem _ he))
        refine ⟨w', ?_, by rw [e2]; simp, e3⟩
        rw [← e1]; simp

theorem scaled_loop (F : Nat) (hF : 1000 ≤ F) (b : List api_Term) (t : api_Term) (hb : b.length ≤ 64) (K : List api_Term → Option (List api_Term × Bool)) (ht1 : 1 ≤ t.Coef) (ht2 : t.Coef ≤ 1099511627776) (ht3 : ∀ e ∈ key t, 0 ≤ e ∧ e ≤ 6) : ∀ (l pre rest : List api_Term) (n : Nat), b = pre ++ l → rest.length = l.length → l.length < n → (∀ x ∈ l, 1 ≤ x.Coef) → (∀ x ∈ l, ∀ e ∈ key x, 0 ≤ e ∧ e ≤ 6) →
    (poly_scaled_L0 F b t K n (pre.length : Int) (pre.map (mulT · t) ++ rest) = K (b.map (mulT · t))) ∨ ((∃ x ∈ l, 1099511627776 < x.Coef * t.Coef) ∧ poly_scaled_L0 F b t K n (pre.length : Int) (pre.map (mulT · t) ++ rest) = some ([], false))
  | [], pre, rest, n, h, hr, hn, _, _ => by
    cases n with
    | zero => omega
    | succ n =>
      left
      rw [poly_scaled_L0, h, List.length_eq_zero_iff.1 hr]; simp
  | x :: l, pre, rest, n, h, hr, hn, hx, hx2 => by
    cases n with
    | zero => omega
    | succ n =>
      have hlen : pre.length < b.length := by rw [h]; simp
      have hidx : idx b (pre.length : Int) = some x := by rw [h]; exact idx_mid _ _ _
      cases rest with
      | nil => simp at hr
      | cons z rest =>
        have hidx2 : idx (pre.map (mulT · t) ++ z :: rest) (pre.length : Int) = some z := by
          have := idx_mid (pre.map (mulT · t)) z rest
          rwa [List.length_map] at this
        rw [poly_scaled_L0]
        have hlt : decide ((pre.length : Int) < (b.length : Int)) = true := by simp; omega
        rw [hlt]
        simp only [cond_true, hidx, Option.bind_some, quo_ok ht1, quo_lt ht1, joinM]
        by_cases c : 1099511627776 < x.Coef * t.Coef
        · right
          refine ⟨⟨x, List.mem_cons_self, c⟩, ?_⟩
          simp [c]
        · have x1 := hx x List.mem_cons_self
          have hpos : 0 ≤ x.Coef * t.Coef := Int.mul_nonneg (by omega) (by omega)
          simp only [c, decide_false, cond_false]
          obtain ⟨w', e1, e2, e3⟩ := scaled_exps F t (fun v14 => (idx (pre.map (mulT · t) ++ z :: rest) (pre.length : Int)).bind fun x23 => poly_scaled_L0 F b t K n (IntKind.i64.wrap ((pre.length : Int) + 1)) ((pre.map (mulT · t) ++ z :: rest).set (pre.length : Int).toNat v14))
            (key x) (key t) [] [] F { x with Coef := IntKind.i64.wrap (x.Coef * t.Coef) } rfl rfl rfl (by rw [key_len]; omega) (hx2 x List.mem_cons_self) ht3
          have ew : w' = mulT x t := term_ext (by rw [e2]; simp [mulT]) (by rw [e3, wrap_ok (by omega) (by omega)]; rfl)
          simp only [List.length_nil, Int.natCast_zero] at e1
          rw [e1, ew, hidx2]
          simp only [Option.bind_some, wrapS _ (show pre.length < 9223372036854775807 by omega), Int.toNat_natCast]
          have hset : (pre.map (mulT · t) ++ z :: rest).set pre.length (mulT x t) = (pre ++ [x]).map (mulT · t) ++ rest := by
            have := set_mid (pre.map (mulT · t)) z (mulT x t) rest
            rw [List.length_map] at this; rw [this]; simp
          rw [hset]
          have ih := scaled_loop F hF b t hb K ht1 ht2 ht3 l (pre ++ [x]) rest n (by simp [h]) (by simpa using hr) (by simp at hn; omega) (fun y hy => hx y (List.mem_cons_of_mem _ hy)) (fun y hy => hx2 y (List.mem_cons_of_mem _ hy))
          simp only [List.length_append, List.length_singleton] at ih
          rcases ih with ih | ⟨⟨y, hy, hc⟩, ih⟩
          · exact .inl ih
          · exact .inr ⟨⟨y, List.mem_cons_of_mem _ hy, hc⟩, ih⟩

theorem scaled_ok (F : Nat) (hF : 1000 ≤ F) {b : List api_Term} (hb : Good b) {t : api_Term} (ht1 : 1 ≤ t.Coef) (ht2 : t.Coef ≤ 1099511627776) (ht3 : ∀ e ∈ key t, 0 ≤ e ∧ e ≤ 6) :
    ∃ q, poly_scaled F b t = some (q, fitB (b.map (mulT · t))) ∧ (fitB (b.map (mulT · t)) = true → q = b.map (mulT · t)) := by
  unfold poly_scaled joinM
  have hm : makM 24 (api_Term.mk (Arr.rep 12 0) 0) (b.length : Int) = some (List.replicate b.length (api_Term.mk (Arr.rep 12 0) 0)) := by
    have := hb.len
    unfold makM; rw [if_pos ⟨by omega, by simp [roomMax]; omega, by simp [roomMax]; omega⟩]; rfl
  simp only [hm, Option.bind_some, pfit_ok F (by omega : 100 ≤ F)]
  have := scaled_loop F hF b t hb.len (fun v4 => (poly_Fit F v4).bind fun x24 => some (v4, x24)) ht1 ht2 ht3 b [] (List.replicate b.length (api_Term.mk (Arr.rep 12 0) 0)) F rfl (by simp) (by have := hb.len; omega) (fun x hx => (hb.coef hx).1) (fun x hx => hb.exps hx)
  simp only [List.map_nil, List.nil_append, List.length_nil, Int.natCast_zero, pfit_ok F (by omega : 100 ≤ F), Option.bind_some] at this
  rcases this with h | ⟨⟨x, hx, hc⟩, h⟩
  · exact ⟨_, h, fun _ => rfl⟩
  · have hf : fitB (b.map (mulT · t)) = false := by
      cases hf : fitB (b.map (mulT · t)) with
      | false => rfl
      | true =>
        have := ((okT_iff _).1 (((fit_iff _).1 hf).2.1 (mulT x t) (List.mem_map.2 ⟨x, hx, rfl⟩))).2.1
        exact absurd (show x.Coef * t.Coef ≤ 1099511627776 from this) (by omega)
    rw [hf]
    exact ⟨_, h, fun e => by cases e⟩

def prodL (a b : List api_Term) : List api_Term := a.flatMap (fun t => b.map (mulT · t))
theorem prodL_append (a a' b : List api_Term) : prodL (a ++ a') b = prodL a b ++ prodL a' b := by simp [prodL]
theorem prodL_cons (t : api_Term) (a b : List api_Term) : prodL (t :: a) b = b.map (mulT · t) ++ prodL a b := by simp [prodL]
theorem map_pos {b : List api_Term} {t : api_Term} (hb : Pos b) (ht : 1 ≤ t.Coef) : Pos (b.map (mulT · t)) := fun x hx => by
  obtain ⟨y, hy, rfl⟩ := List.mem_map.1 hx
  have := hb y hy
  show 1 ≤ y.Coef * t.Coef
  have := Int.mul_le_mul (show (1 : Int) ≤ y.Coef by omega) ht (by omega) (by omega)
  omega
theorem map_srt {b : List api_Term} (t : api_Term) (hb : Srt b) : Srt (b.map (mulT · t)) := by
  refine List.Pairwise.map _ (fun x y h => ?_) hb
  show ltL (List.zipWith _ _ _) (List.zipWith _ _ _) = true
  rw [ltL_add _ _ _ (by rw [key_len, key_len]) (by rw [key_len, key_len])]; exact h
theorem map_nn {b : List api_Term} {t : api_Term} (hb : NN b) (ht : ∀ e ∈ key t, 0 ≤ e) : NN (b.map (mulT · t)) := fun x hx => by
  obtain ⟨y, hy, rfl⟩ := List.mem_map.1 hx
  have h1 := hb y hy
  intro e he
  have : ∀ (us vs : List Int), (∀ e ∈ us, 0 ≤ e) → (∀ e ∈ vs, 0 ≤ e) → ∀ e ∈ List.zipWith (· + ·) us vs, 0 ≤ e := by
    intro us
    induction us with
    | nil => intro vs _ _ e he; simp at he
    | cons u us ih =>
      intro vs hu hv e he
      cases vs with
      | nil => simp at he
      | cons v vs =>
        rw [List.zipWith_cons_cons] at he
        rcases List.mem_cons.1 he with rfl | he
        · have := hu u List.mem_cons_self; have := hv v List.mem_cons_self; omega
        · exact ih vs (fun e he => hu e (List.mem_cons_of_mem _ he)) (fun e he => hv e (List.mem_cons_of_mem _ he)) e he
  exact this _ _ h1 ht e he
theorem prod_pos : ∀ {a b : List api_Term}, Pos a → Pos b → Pos (prodL a b)
  | [], b, _, _ => fun x hx => by cases hx
  | t :: a, b, ha, hb => by
    rw [prodL_cons]
    exact (map_pos hb (ha t List.mem_cons_self)).append (prod_pos ha.tail hb)
theorem prod_nn : ∀ {a b : List api_Term}, NN a → NN b → NN (prodL a b)
  | [], b, _, _ => fun x hx => by cases hx
  | t :: a, b, ha, hb => by
    rw [prodL_cons]
    exact (map_nn hb (ha t List.mem_cons_self)).append (prod_nn ha.tail hb)

theorem mul_loop (F : Nat) (hF : 1000 ≤ F) {a b : List api_Term} (ha : Good a) (hb : Good b) : ∀ (l pre : List api_Term) (n : Nat), a = pre ++ l → l.length < n → fitB (norm (prodL pre b)) = true →
    poly_Mul_L0 F a b n (norm (prodL pre b)) (pre.length : Int) = some (Res (prodL a b))
  | [], pre, n, h, hn, hf => by
    cases n with
    | zero => omega
    | succ n =>
      rw [poly_Mul_L0]
      simp only [List.append_nil] at h
      subst h
      simp [res_yes hf]
  | t :: l, pre, n, h, hn, hf => by
    cases n with
    | zero => omega
    | succ n =>
      have hla := ha.len
      have hlen : pre.length < a.length := by rw [h]; simp
      have hidx : idx a (pre.length : Int) = some t := by rw [h]; exact idx_mid _ _ _
      have htm : t ∈ a := by rw [h]; simp
      have pp : Pos pre := fun x hx => ha.pos x (by rw [h]; exact List.mem_append_left _ hx)
      have pl : Pos l := fun x hx => ha.pos x (by rw [h]; exact List.mem_append_right _ (List.mem_cons_of_mem _ hx))
      obtain ⟨t1, t2⟩ := ha.coef htm
      have hP := prod_pos ha.pos hb.pos
      have hm := map_pos hb.pos t1
      have eP : prodL a b = prodL pre b ++ (b.map (mulT · t) ++ prodL l b) := by rw [h, prodL_append, prodL_cons]
      have eP2 : prodL (pre ++ [t]) b = prodL pre b ++ b.map (mulT · t) := by rw [prodL_append, prodL_cons]; simp [prodL]
      obtain ⟨q, hs, hq⟩ := scaled_ok F hF hb t1 t2 (ha.exps htm)
      rw [poly_Mul_L0]
      have hlt : decide ((pre.length : Int) < (a.length : Int)) = true := by simp; omega
      rw [hlt]
      simp only [cond_true, hidx, Option.bind_some, hs]
      cases hfm : fitB (b.map (mulT · t)) with
      | false =>
        have : fitB (norm (prodL a b)) = false := by
          cases hfa : fitB (norm (prodL a b)) with
          | false => rfl
          | true =>
            have := fit_sub (l := b.map (mulT · t)) (r := prodL pre b ++ prodL l b) hm hP ((prod_pos pp hb.pos).append (prod_pos pl hb.pos)) (fun k => by
              rw [eP]; simp only [coef, dot_append]; omega) hfa
            rw [norm_eq hm (map_srt t hb.srt) hm (fun _ => rfl), hfm] at this; cases this
        rw [res_no this]; rfl
      | true =>
        have eq := hq hfm; subst eq
        simp only [Bool.not_true, cond_false, add_ok F hF hf hfm, Option.bind_some]
        have e2 : Res (norm (prodL pre b) ++ b.map (mulT · t)) = Res (prodL (pre ++ [t]) b) := by
          refine Res_congr ((norm_pos (prod_pos pp hb.pos)).append hm) (by rw [eP2]; exact (prod_pos pp hb.pos).append hm) (fun k => ?_)
          rw [eP2]; simp only [coef, dot_append, norm_dot]
        rw [e2]
        cases hfr : fitB (norm (prodL (pre ++ [t]) b)) with
        | true =>
          rw [res_yes hfr]
          simp only [bne_self_eq_false, cond_false, wrapS _ (show pre.length < 9223372036854775807 by omega)]
          have ih := mul_loop F hF ha hb l (pre ++ [t]) n (by simp [h]) (by simp at hn; omega) hfr
          simpa using ih
        | false =>
          rw [res_no hfr]
          have : fitB (norm (prodL a b)) = false := by
            cases hfa : fitB (norm (prodL a b)) with
            | false => rfl
            | true =>
              have := fit_sub (l := prodL (pre ++ [t]) b) (r := prodL l b) (by rw [eP2]; exact (prod_pos pp hb.pos).append hm) hP (prod_pos pl hb.pos) (fun k => by
                rw [eP, eP2]; simp only [coef, dot_append]; omega) hfa
              rw [hfr] at this; cases this
          rw [res_no this]; rfl
theorem mul_ok (F : Nat) (hF : 1000 ≤ F) {a b : List api_Term} (ha : Good a) (hb : Good b) : poly_Mul F a b = some (Res (prodL a b)) := by
  have := mul_loop F hF ha hb a [] F rfl (by have := ha.len; omega) rfl
  simpa [poly_Mul, prodL, norm] using this

theorem add_good {a b : List api_Term} (ha : Good a) (hb : Good b) : Good (Res (a ++ b)).1 := res_good (ha.nn.append hb.nn)
theorem mul_good {a b : List api_Term} (ha : Good a) (hb : Good b) : Good (Res (prodL a b)).1 := res_good (prod_nn ha.nn hb.nn)

/-! A product's numbers. -/
def pls (i j : List Int) : List Int := List.zipWith (· + ·) i j
theorem pls_comm : ∀ (i j : List Int), pls i j = pls j i
  | [], j => by simp [pls]
  | _ :: _, [] => by simp [pls]
  | a :: i, b :: j => by
    have := pls_comm i j
    simp only [pls, List.zipWith_cons_cons] at this ⊢
    rw [this, Int.add_comm]
theorem pls_assoc : ∀ (i j k : List Int), pls (pls i j) k = pls i (pls j k)
  | [], j, k => by simp [pls]
  | _ :: _, [], k => by simp [pls]
  | _ :: _, _ :: _, [] => by simp [pls]
  | a :: i, b :: j, c :: k => by
    have := pls_assoc i j k
    simp only [pls, List.zipWith_cons_cons] at this ⊢
    rw [this, Int.add_assoc]
theorem dot_map (g : List Int → Int) (t : api_Term) : ∀ (b : List api_Term), dot g (b.map (mulT · t)) = t.Coef * dot (fun i => g (pls i (key t))) b
  | [] => by simp [dot]
  | x :: b => by
    simp only [List.map_cons, dot, dot_map g t b]
    rw [show key (mulT x t) = pls (key x) (key t) from rfl, show (mulT x t).Coef = x.Coef * t.Coef from rfl, Int.mul_add]
    congr 1
    rw [Int.mul_comm x.Coef, Int.mul_assoc]
theorem dot_prod (g : List Int → Int) (b : List api_Term) : ∀ (a : List api_Term), dot g (prodL a b) = dot (fun j => dot (fun i => g (pls i j)) b) a
  | [] => rfl
  | t :: a => by rw [prodL_cons, dot_append, dot_map, dot_prod g b a]; rfl
theorem dot_zero : ∀ (a : List api_Term), dot (fun _ => 0) a = 0
  | [] => rfl
  | t :: a => by simp [dot, dot_zero a]
theorem dot_plus (g h : List Int → Int) : ∀ (a : List api_Term), dot (fun j => g j + h j) a = dot g a + dot h a
  | [] => rfl
  | t :: a => by simp only [dot, dot_plus g h a, Int.mul_add]; omega
theorem dot_times (c : Int) (g : List Int → Int) : ∀ (a : List api_Term), dot (fun j => c * g j) a = c * dot g a
  | [] => by simp [dot]
  | t :: a => by
    simp only [dot, dot_times c g a, Int.mul_add]
    rw [← Int.mul_assoc, Int.mul_comm t.Coef, Int.mul_assoc]
theorem dot_swap (h : List Int → List Int → Int) (b : List api_Term) : ∀ (a : List api_Term), dot (fun j => dot (fun i => h i j) b) a = dot (fun i => dot (fun j => h i j) a) b
  | [] => by simp only [dot]; exact (dot_zero b).symm
  | t :: a => by
    simp only [dot, dot_swap h b a]
    rw [dot_plus, dot_times]
theorem prod_comm (g : List Int → Int) (a b : List api_Term) : dot g (prodL a b) = dot g (prodL b a) := by
  rw [dot_prod, dot_prod, dot_swap]
  congr 1; funext i; congr 1; funext j; rw [pls_comm]
theorem prod_assoc (g : List Int → Int) (a b c : List api_Term) : dot g (prodL (prodL a b) c) = dot g (prodL a (prodL b c)) := by
  rw [dot_prod, dot_prod, dot_prod]
  congr 1; funext j; rw [dot_prod, dot_swap]
  rw [dot_swap]
  congr 1; funext i; congr 1; funext k; rw [pls_assoc]
theorem prod_norm_left (g : List Int → Int) (a b : List api_Term) : dot g (prodL (norm a) b) = dot g (prodL a b) := by
  rw [dot_prod, norm_dot, ← dot_prod]
theorem prod_norm_right (g : List Int → Int) (a b : List api_Term) : dot g (prodL a (norm b)) = dot g (prodL a b) := by
  rw [prod_comm, prod_norm_left, prod_comm]

theorem cond_both {α : Type} {c : Bool} {f g z : α} (h1 : c = true → f = z) (h2 : c = false → g = z) : (bif c then f else g) = z := by
  cases c with
  | true => exact h1 rfl
  | false => exact h2 rfl
theorem same_loop (F : Nat) (p : List api_Term) (hp : p.length ≤ 64) : ∀ (l pre : List api_Term) (n : Nat), p = pre ++ l → l.length < n → R13_Same_L0 F p p n (pre.length : Int) = some true
  | [], pre, n, h, hn => by
    cases n with
    | zero => omega
    | succ n => subst h; rw [R13_Same_L0]; simp
  | t :: l, pre, n, h, hn => by
    cases n with
    | zero => omega
    | succ n =>
      have hlen : pre.length < p.length := by rw [h]; simp
      have hidx : idx p (pre.length : Int) = some t := by rw [h]; exact idx_mid _ _ _
      have ih := same_loop F p hp l (pre ++ [t]) n (by simp [h]) (by simp at hn; omega)
      simp only [List.length_append, List.length_singleton] at ih
      rw [R13_Same_L0]
      have hlt : decide ((pre.length : Int) < (p.length : Int)) = true := by simp; omega
      rw [hlt]
      simp only [cond_true, hidx, Option.bind_some, beq_self_eq_true, Bool.and_self, Bool.not_true, cond_false, wrapS _ (show pre.length < 9223372036854775807 by omega), ih]
theorem same_ok (F : Nat) (hF : 100 ≤ F) (p : List api_Term) (hp : p.length ≤ 64) : R13_Same F p p = some true := by
  have := same_loop F p hp p [] F rfl (by omega)
  simp only [List.length_nil] at this
  rw [show ((0 : Nat) : Int) = 0 from rfl] at this
  simp [R13_Same, this]

theorem few_loop (F : Nat) (hF : 100 ≤ F) (ps : List (List api_Term)) (hp : ps.length ≤ maxLen) : ∀ (l pre : List (List api_Term)) (n : Nat) (v : Int), ps = pre ++ l → l.length < n → 0 ≤ v → v ≤ 30 →
    ∃ b, L13_few_L0 F ps n v (pre.length : Int) = some b ∧ (b = true → ps.length ≤ 20 ∧ ∀ p ∈ l, fitB p = true)
  | [], pre, n, v, h, hn, _, _ => by
    cases n with
    | zero => omega
    | succ n =>
      refine ⟨decide ((ps.length : Int) ≤ 20), ?_, fun e => ⟨by simp at e; omega, fun p hp => by cases hp⟩⟩
      rw [L13_few_L0, h]; simp
  | t :: l, pre, n, v, h, hn, hv1, hv2 => by
    cases n with
    | zero => omega
    | succ n =>
      have hlen : pre.length < ps.length := by rw [h]; simp
      have hidx : idx ps (pre.length : Int) = some t := by rw [h]; exact idx_mid _ _ _
      rw [L13_few_L0]
      have hlt : decide ((pre.length : Int) < (ps.length : Int)) = true := by simp; omega
      rw [hlt]
      simp only [cond_true, hidx, Option.bind_some, rfit_ok F hF]
      cases hf : fitB t with
      | false => exact ⟨false, rfl, fun e => by cases e⟩
      | true =>
        have hl := ((fit_iff t).1 hf).1
        simp only [Bool.not_true, Bool.false_or]
        rw [wrap_ok (by omega) (by omega)]
        by_cases c : 30 < v + (t.length : Int)
        · exact ⟨false, by simp [c], fun e => by cases e⟩
        · simp only [c, decide_false, cond_false]
          have hm : pre.length < 9223372036854775807 := by simp [maxLen] at hp; omega
          rw [wrapS _ hm]
          obtain ⟨b, e1, e2⟩ := few_loop F hF ps hp l (pre ++ [t]) n (v + t.length) (by simp [h]) (by simp at hn; omega) (by omega) (by omega)
          simp only [List.length_append, List.length_singleton] at e1
          refine ⟨b, e1, fun e => ⟨(e2 e).1, fun p hp => ?_⟩⟩
          rcases List.mem_cons.1 hp with rfl | hp
          · exact hf
          · exact (e2 e).2 p hp
theorem few_ok (F : Nat) (ps : List (List api_Term)) (hp : ps.length ≤ maxLen) (hF : 100 + ps.length ≤ F) : ∃ b, L13_few F ps = some b ∧ (b = true → ps.length ≤ 20 ∧ ∀ p ∈ ps, fitB p = true) := by
  have := few_loop F (by omega) ps hp ps [] F 0 rfl (by omega) (by omega) (by omega)
  simpa [L13_few] using this

theorem nn_of {x : List api_Term} (w : W37 x) : NN x := fun t ht e he => by
  have := (w.2 t ht).1 e he
  have := this.1
  exact this
theorem w5_lo {x : Int} (w : W5 x) : 0 ≤ x := w.1
theorem w5_hi {x : Int} (w : W5 x) : x ≤ 255 := w.2
theorem w46_lo {x : Int} (w : W46 x) : 0 ≤ x := w.1
theorem w46_hi {x : Int} (w : W46 x) : x ≤ 4294967295 := w.2
theorem w2_lo {x : Int} (w : W2 x) : -9223372036854775808 ≤ x := w.1
theorem w2_hi {x : Int} (w : W2 x) : x ≤ 9223372036854775807 := w.2
theorem res_len {l : List api_Term} (h : NN l) : (Res l).1.length ≤ 64 := (res_good h).len
theorem awake_ok : L13_awake 2000 = some true := by decide +kernel
end Go.Proofs.Ytfbkgjmpadknfaa.M
