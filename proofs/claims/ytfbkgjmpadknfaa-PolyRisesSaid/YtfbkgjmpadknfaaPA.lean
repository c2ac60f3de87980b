/-
  Sums of terms: their order, and which can be.
-/
import Derived.Test.YtfbkgjmpadknfaaGM
import Derived.Test.YtfbkgjmpadknfaaGO
namespace Go.Proofs.Ytfbkgjmpadknfaa.M
open Go.Proofs.YtfbkgjmpadknfaaW.Ah Go.Proofs.Ytfbkgjmpadknfaa
set_option linter.unusedVariables false
set_option linter.unusedSimpArgs false

theorem idx_nat {α : Type} (xs : List α) (k : Nat) : idx xs (k : Int) = xs[k]? := by simp [idx]
theorem idx_mid {α : Type} (pre : List α) (t : α) (l : List α) : idx (pre ++ t :: l) (pre.length : Int) = some t := by rw [idx_nat]; simp
theorem idx_zero {α : Type} (t : α) (l : List α) : idx (t :: l) 0 = some t := by simp [idx]
theorem wrap_ok {x : Int} (h1 : -9223372036854775808 ≤ x) (h2 : x ≤ 9223372036854775807) : IntKind.i64.wrap x = x := wrap64_id h1 (by omega)
theorem wrapS (n : Nat) (h : n < 9223372036854775807) : IntKind.i64.wrap ((n : Int) + 1) = ((n + 1 : Nat) : Int) := wrap_succ n (by omega)

/-- What stands ahead, of rows of numbers. -/
def ltL : List Int → List Int → Bool
  | a :: us, b :: bs => if a = b then ltL us bs else decide (a < b)
  | _, _ => false

theorem ltL_irrefl : ∀ (a : List Int), ltL a a = false
  | [] => rfl
  | a :: us => by simp [ltL, ltL_irrefl us]
theorem ltL_trans : ∀ {a b c : List Int}, ltL a b = true → ltL b c = true → ltL a c = true
  | [], _, _, h, _ => by cases h
  | _ :: _, [], _, h, _ => by cases h
  | _ :: _, _ :: _, [], _, h => by cases h
  | a :: us, b :: bs, c :: cs, h, g => by
    simp only [ltL] at h g ⊢
    by_cases e1 : a = b
    · subst e1
      rw [if_pos rfl] at h
      by_cases e2 : a = c
      · subst e2; rw [if_pos rfl] at g ⊢; exact ltL_trans h g
      · rw [if_neg e2] at g ⊢; exact g
    · rw [if_neg e1] at h
      by_cases e2 : b = c
      · subst e2; rw [if_neg e1]; exact h
      · rw [if_neg e2] at g
        simp only [decide_eq_true_eq] at h g
        rw [if_neg (by omega)]; simp only [decide_eq_true_eq]; omega
theorem ltL_asymm {a b : List Int} (h : ltL a b = true) : ltL b a = false := by
  cases hb : ltL b a with
  | false => rfl
  | true => have := ltL_trans h hb; rw [ltL_irrefl] at this; cases this
theorem ltL_ne {a b : List Int} (h : ltL a b = true) : a ≠ b := by
  rintro rfl; rw [ltL_irrefl] at h; cases h
theorem ltL_tri : ∀ {a b : List Int}, a.length = b.length → a ≠ b → ltL a b = false → ltL b a = true
  | [], [], _, h, _ => absurd rfl h
  | [], _ :: _, h, _, _ => by simp at h
  | _ :: _, [], h, _, _ => by simp at h
  | a :: us, b :: bs, hl, hn, h => by
    simp only [ltL] at h ⊢
    by_cases e : a = b
    · subst e
      rw [if_pos rfl] at h ⊢
      exact ltL_tri (by simpa using hl) (fun e => hn (by rw [e])) h
    · rw [if_neg e] at h
      rw [if_neg (fun e' => e e'.symm)]
      simp only [decide_eq_false_iff_not, decide_eq_true_eq] at h ⊢
      omega
/-- Adding the same on both sides. -/
theorem ltL_add : ∀ (a b c : List Int), a.length = c.length → b.length = c.length → ltL (List.zipWith (· + ·) a c) (List.zipWith (· + ·) b c) = ltL a b
  | [], [], c, _, _ => by simp [ltL]
  | [], _ :: _, c, h, g => by rw [← h] at g; simp at g
  | _ :: _, [], c, h, g => by rw [← g] at h; simp at h
  | a :: us, b :: bs, c :: cs, h, g => by
    simp only [List.zipWith, ltL]
    rw [ltL_add us bs cs (by simpa using h) (by simpa using g)]
    by_cases e : a = b
    · subst e; simp
    · rw [if_neg e, if_neg (by omega)]; simp
  | _ :: _, _ :: _, [], h, _ => by simp at h

abbrev key (t : api_Term) : List Int := t.Exps.1
theorem key_len (t : api_Term) : (key t).length = 12 := t.Exps.2
theorem term_ext {s t : api_Term} (h1 : key s = key t) (h2 : s.Coef = t.Coef) : s = t := by
  cases s; cases t; simp only [key] at h1; simp only at h2; subst h2; congr; exact Arr.ext h1

/-- A term that can be. -/
def okT (t : api_Term) : Bool := decide (1 ≤ t.Coef) && decide (t.Coef ≤ 1099511627776) && (key t).all (fun e => decide (e ≤ 6))
def chk : Option api_Term → List api_Term → Bool
  | _, [] => true
  | pv, t :: l => okT t && (match pv with | none => true | some s => ltL (key s) (key t)) && chk (some t) l
def fitB (p : List api_Term) : Bool := decide (p.length ≤ 64) && chk none p

/-! The document's. -/
theorem less_loop (F : Nat) (a b : Arr 12 Int) : ∀ (us bs pa pb : List Int) (n : Nat), a.1 = pa ++ us → b.1 = pb ++ bs → pa.length = pb.length → us.length < n → R13_less_L0 F a b n (pa.length : Int) = some (ltL us bs)
  | [], bs, pa, pb, n, ha, hb, hl, hn => by
    cases n with
    | zero => omega
    | succ n =>
      have h1 := a.2; rw [ha] at h1; simp at h1
      rw [R13_less_L0]
      simp [h1, ltL]
  | x :: us, bs, pa, pb, n, ha, hb, hl, hn => by
    cases n with
    | zero => omega
    | succ n =>
      have h1 := a.2; rw [ha] at h1; simp at h1
      have h2 := b.2; rw [hb] at h2; simp at h2
      cases bs with
      | nil => simp at h2; omega
      | cons y bs =>
        have ih := less_loop F a b us bs (pa ++ [x]) (pb ++ [y]) n (by simp [ha]) (by simp [hb]) (by simp [hl]) (by simp at hn; omega)
        rw [R13_less_L0]
        rw [ha, hb, idx_mid, hl, idx_mid, ← hl]
        have hlt : decide ((pa.length : Int) < 12) = true := by simp; omega
        rw [hlt]
        simp only [cond_true, Option.bind_some, ltL]
        by_cases e : x = y
        · subst e
          rw [wrapS _ (by omega)]
          simp only [bne_self_eq_false, cond_false, if_true]
          simpa using ih
        · have hne : (x != y) = true := by simp [e]
          rw [hne]; simp [e]
theorem less_ok (F : Nat) (hF : 20 ≤ F) (a b : Arr 12 Int) : R13_less F a b = some (ltL a.1 b.1) := by
  have := less_loop F a b a.1 b.1 [] [] F rfl rfl rfl (by rw [a.2]; omega)
  simpa [R13_less] using this

theorem fit_exps (F : Nat) (p : List api_Term) (i : Nat) (t : api_Term) (K : Unit → Option Bool) (hi : p[i]? = some t) : ∀ (es pe : List Int) (n : Nat), key t = pe ++ es → es.length < n →
    R13_Fit_L1 F p (i : Int) K n (pe.length : Int) = if es.all (fun e => decide (e ≤ 6)) = true then K () else some false
  | [], pe, n, h, hn => by
    cases n with
    | zero => omega
    | succ n =>
      have h1 := key_len t; rw [h] at h1; simp at h1
      rw [R13_Fit_L1]; simp [h1]
  | e :: es, pe, n, h, hn => by
    cases n with
    | zero => omega
    | succ n =>
      have h1 := key_len t; rw [h] at h1; simp at h1
      have ih := fit_exps F p i t K hi es (pe ++ [e]) n (by simp [h]) (by simp at hn; omega)
      rw [R13_Fit_L1]
      have hlt : decide ((pe.length : Int) < 12) = true := by simp; omega
      rw [hlt, idx_nat, hi]
      simp only [cond_true, Option.bind_some]
      rw [show t.Exps.1 = pe ++ e :: es from h, idx_mid]
      simp only [Option.bind_some]
      by_cases he : 6 < e
      · have : ¬ e ≤ 6 := by omega
        simp [he, this]
      · have : e ≤ 6 := by omega
        rw [wrapS _ (by omega)]
        simp only [he, decide_false, cond_false, List.all_cons, this, decide_true, Bool.true_and]
        simpa using ih

theorem rfit_loop (F : Nat) (hF : 20 ≤ F) (p : List api_Term) (hp : p.length ≤ 64) : ∀ (l pre : List api_Term) (n : Nat), p = pre ++ l → l.length < n → R13_Fit_L0 F p n (pre.length : Int) = some (chk pre.getLast? l)
  | [], pre, n, h, hn => by
    cases n with
    | zero => omega
    | succ n => subst h; rw [R13_Fit_L0]; simp [chk]
  | t :: l, pre, n, h, hn => by
    cases n with
    | zero => omega
    | succ n =>
      have ih := rfit_loop F hF p hp l (pre ++ [t]) n (by simp [h]) (by simp at hn; omega)
      have hg : (pre ++ [t]).getLast? = some t := by simp
      rw [hg] at ih
      have hlen : pre.length < p.length := by rw [h]; simp
      have hidx : idx p (pre.length : Int) = some t := by rw [h]; exact idx_mid _ _ _
      have hget : p[pre.length]? = some t := by rw [← idx_nat]; exact hidx
      have hex := fit_exps F p pre.length t (fun _ => R13_Fit_L0 F p n (IntKind.i64.wrap ((pre.length : Int) + 1))) hget (key t) [] F rfl (by rw [key_len]; omega)
      rw [wrapS _ (by omega)] at hex
      simp only [List.length_append, List.length_singleton] at ih
      rw [ih] at hex
      rw [R13_Fit_L0]
      have hlt : decide ((pre.length : Int) < (p.length : Int)) = true := by simp; omega
      rw [hlt]
      simp only [cond_true, hidx, Option.bind_some, joinM, chk, okT, wrapS _ (show pre.length < 9223372036854775807 by omega), ih]
      simp only [List.length_nil, Int.natCast_zero] at hex
      rw [hex]
      by_cases c1 : t.Coef < 1
      · have : ¬ 1 ≤ t.Coef := by omega
        simp [c1, this]
      · by_cases c2 : 1099511627776 < t.Coef
        · have : ¬ t.Coef ≤ 1099511627776 := by omega
          simp [c1, c2, this]
        · have d1 : 1 ≤ t.Coef := by omega
          have d2 : t.Coef ≤ 1099511627776 := by omega
          simp only [c1, c2, d1, d2, decide_false, decide_true, cond_false, Bool.true_and]
          cases hall : (key t).all (fun e => decide (e ≤ 6)) with
          | false =>
            rw [hall] at hex
            simp only [Bool.false_eq_true, if_false] at hex
            cases hq : pre.getLast? with
            | none =>
              have : pre = [] := List.getLast?_eq_none_iff.1 hq
              subst this
              simp only [List.length_nil] at hex ⊢
              simp [hex]
            | some s =>
              obtain ⟨pre', hpre⟩ := List.getLast?_eq_some_iff.1 hq
              have hpos : (0 : Int) < (pre.length : Int) := by rw [hpre]; simp only [List.length_append, List.length_singleton]; omega
              have hw : IntKind.i64.wrap ((pre.length : Int) - 1) = (pre'.length : Int) := by
                have hl2 : pre.length = pre'.length + 1 := by rw [hpre]; simp only [List.length_append, List.length_singleton]
                rw [hl2, show (((pre'.length + 1 : Nat) : Int) - 1) = (pre'.length : Int) by omega]
                exact wrap_ok (by omega) (by omega)
              have hs : idx p (pre'.length : Int) = some s := by rw [h, hpre, List.append_assoc]; exact idx_mid _ _ _
              simp only [hpos, decide_true, cond_true, hw, hs, Option.bind_some, less_ok F hF, hex]
              cases ltL s.Exps.1 t.Exps.1 <;> rfl
          | true =>
            rw [hall] at hex
            simp only [if_true] at hex
            cases hq : pre.getLast? with
            | none =>
              have : pre = [] := List.getLast?_eq_none_iff.1 hq
              subst this
              simp only [List.length_nil] at hex ⊢
              simp [hex]
            | some s =>
              obtain ⟨pre', hpre⟩ := List.getLast?_eq_some_iff.1 hq
              have hpos : (0 : Int) < (pre.length : Int) := by rw [hpre]; simp only [List.length_append, List.length_singleton]; omega
              have hw : IntKind.i64.wrap ((pre.length : Int) - 1) = (pre'.length : Int) := by
                have hl2 : pre.length = pre'.length + 1 := by rw [hpre]; simp only [List.length_append, List.length_singleton]
                rw [hl2, show (((pre'.length + 1 : Nat) : Int) - 1) = (pre'.length : Int) by omega]
                exact wrap_ok (by omega) (by omega)
              have hs : idx p (pre'.length : Int) = some s := by rw [h, hpre, List.append_assoc]; exact idx_mid _ _ _
              simp only [hpos, decide_true, cond_true, hw, hs, Option.bind_some, less_ok F hF, hex]
              cases hlts : ltL s.Exps.1 t.Exps.1 <;> simp [key, hlts]
theorem rfit_ok (F : Nat) (hF : 100 ≤ F) (p : List api_Term) : R13_Fit F p = some (fitB p) := by
  unfold R13_Fit fitB
  by_cases h : 64 < (p.length : Int)
  · have : ¬ p.length ≤ 64 := by omega
    simp [h, this]
  · have hl : p.length ≤ 64 := by omega
    have := rfit_loop F (by omega) p hl p [] F rfl (by omega)
    simp only [h, decide_false, cond_false, hl, decide_true, Bool.true_and]
    simpa using this
end Go.Proofs.Ytfbkgjmpadknfaa.M
