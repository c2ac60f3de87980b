/-
  Sums of terms: sums put for variables.
-/
import Derived.Test.YtfbkgjmpadknfaaPJ
namespace Go.Proofs.Ytfbkgjmpadknfaa.M
open Go.Proofs.YtfbkgjmpadknfaaW.Ah Go.Proofs.Ytfbkgjmpadknfaa
set_option linter.unusedVariables false
set_option linter.unusedSimpArgs false

def powR (q : List api_Term) : Nat → List api_Term → List api_Term × Int
  | 0, p => (p, 0)
  | n + 1, p => if (Res (prodL p q)).2 = 0 then powR q n (Res (prodL p q)).1 else ([], 17)
def qv (qs : List (List api_Term)) (i : Nat) : List api_Term := qs.getD i [unitT i]
def varsR (qs : List (List api_Term)) : Nat → List Int → List api_Term → List api_Term × Int
  | _, [], p => (p, 0)
  | i, e :: es, p => if (powR (qv qs i) e.toNat p).2 = 0 then varsR qs (i + 1) es (powR (qv qs i) e.toNat p).1 else ([], 17)
def putR (qs : List (List api_Term)) : List api_Term → List api_Term → List api_Term × Int
  | [], p => (p, 0)
  | t :: l, p => if (varsR qs 0 (key t) (NumR t.Coef).1).2 = 0 then
      if (Res (p ++ (varsR qs 0 (key t) (NumR t.Coef).1).1)).2 = 0 then putR qs l (Res (p ++ (varsR qs 0 (key t) (NumR t.Coef).1).1)).1 else ([], 17) else ([], 17)

theorem res_other {l : List api_Term} (h : ¬ (Res l).2 = 0) : Res l = ([], 17) := by
  cases hf : fitB (norm l) with
  | true => rw [res_yes hf] at h; exact absurd rfl h
  | false => exact res_no hf
theorem pow_good {q : List api_Term} (hq : Good q) : ∀ (n : Nat) {p : List api_Term}, Good p → Good (powR q n p).1
  | 0, p, hp => hp
  | n + 1, p, hp => by
    rw [powR]; split
    · exact pow_good hq n (mul_good hp hq)
    · exact good_nil
def QG (qs : List (List api_Term)) : Prop := ∀ q ∈ qs, Good q
theorem qv_good {qs : List (List api_Term)} (h : QG qs) (i : Nat) : Good (qv qs i) := by
  unfold qv
  by_cases c : i < qs.length
  · rw [show qs.getD i [unitT i] = qs[i] by simp [c]]; exact h _ (List.getElem_mem c)
  · rw [show qs.getD i [unitT i] = [unitT i] by simp [List.getElem?_eq_none (show qs.length ≤ i by omega)]]
    exact good_unit i 1 (by omega) (by omega)
theorem vars_good {qs : List (List api_Term)} (h : QG qs) : ∀ (es : List Int) (i : Nat) {p : List api_Term}, Good p → Good (varsR qs i es p).1
  | [], i, p, hp => hp
  | e :: es, i, p, hp => by
    rw [varsR]; split
    · exact vars_good h es (i + 1) (pow_good (qv_good h i) _ hp)
    · exact good_nil
theorem put_good {qs : List (List api_Term)} (h : QG qs) : ∀ (l : List api_Term) {p : List api_Term}, Good p → Good (putR qs l p).1
  | [], p, hp => hp
  | t :: l, p, hp => by
    rw [putR]; split
    · split
      · exact put_good h l (add_good hp (vars_good h _ _ (num_good _)))
      · exact good_nil
    · exact good_nil

/-! The program's. -/
theorem put_pow (F : Nat) (hF : 1000 ≤ F) {q : List api_Term} (hq : Good q) (e : Int) (he : e ≤ 200) (K : List api_Term → Option (List api_Term × Int)) : ∀ (r c n : Nat) (p : List api_Term), Good p → (c : Int) + r = e → r < n →
    poly_Put_L2 F e q K n p (c : Int) = if (powR q r p).2 = 0 then K (powR q r p).1 else some ([], 17)
  | 0, c, n, p, hp, hc, hn => by
    cases n with
    | zero => omega
    | succ n =>
      rw [poly_Put_L2]
      have : ¬ (c : Int) < e := by omega
      simp [this, powR]
  | r + 1, c, n, p, hp, hc, hn => by
    cases n with
    | zero => omega
    | succ n =>
      rw [poly_Put_L2]
      have : (c : Int) < e := by omega
      simp only [this, decide_true, cond_true, mul_ok F hF hp hq, Option.bind_some, wrap_u8 (show 0 ≤ (c : Int) + 1 by omega) (by omega)]
      by_cases g : (Res (prodL p q)).2 = 0
      · have ih := put_pow F hF hq e he K r (c + 1) n (Res (prodL p q)).1 (mul_good hp hq) (by omega) (by omega)
        rw [show powR q (r + 1) p = powR q r (Res (prodL p q)).1 by rw [powR, if_pos g]]
        have gb : ((Res (prodL p q)).2 != 0) = false := by simpa using g
        rw [gb]; exact ih
      · rw [show powR q (r + 1) p = ([], 17) by rw [powR, if_neg g]]
        rw [res_other g]; rfl
theorem put_vars (F : Nat) (hF : 1000 ≤ F) {qs : List (List api_Term)} (hq : QG qs) (t : api_Term) (K : List api_Term → Option (List api_Term × Int)) : ∀ (es pe : List Int) (n : Nat) (p : List api_Term), Good p → key t = pe ++ es → es.length < n → (∀ e ∈ es, 0 ≤ e ∧ e ≤ 6) →
    poly_Put_L1 F qs t K n p (pe.length : Int) = if (varsR qs pe.length es p).2 = 0 then K (varsR qs pe.length es p).1 else some ([], 17)
  | [], pe, n, p, hp, h, hn, _ => by
    cases n with
    | zero => omega
    | succ n =>
      have h2 := key_len t; rw [h] at h2; simp at h2
      rw [poly_Put_L1]
      simp [h2, varsR]
  | e :: es, pe, n, p, hp, h, hn, hu => by
    cases n with
    | zero => omega
    | succ n =>
      have h2 := key_len t; rw [h] at h2; simp at h2
      obtain ⟨e1, e2⟩ := hu e List.mem_cons_self
      rw [poly_Put_L1]
      have hlt : decide ((pe.length : Int) < 12) = true := by simp; omega
      rw [hlt, show t.Exps.1 = pe ++ e :: es from h, idx_mid]
      have step : poly_Put_L2 F e (qv qs pe.length) (fun v21 => poly_Put_L1 F qs t K n v21 (IntKind.i64.wrap ((pe.length : Int) + 1))) F p 0 = if (varsR qs pe.length (e :: es) p).2 = 0 then K (varsR qs pe.length (e :: es) p).1 else some ([], 17) := by
        refine (put_pow F hF (qv_good hq pe.length) e (by omega) _ e.toNat 0 F p hp (by omega) (by omega)).trans ?_
        by_cases g : (powR (qv qs pe.length) e.toNat p).2 = 0
        · rw [if_pos g, show varsR qs pe.length (e :: es) p = varsR qs (pe.length + 1) es (powR (qv qs pe.length) e.toNat p).1 by rw [varsR, if_pos g]]
          have ih := put_vars F hF hq t K es (pe ++ [e]) n (powR (qv qs pe.length) e.toNat p).1 (pow_good (qv_good hq _) _ hp) (by simp [h]) (by simp at hn; omega) (fun x hx => hu x (List.mem_cons_of_mem _ hx))
          simp only [List.length_append, List.length_singleton] at ih
          rw [wrapS _ (show pe.length < 9223372036854775807 by omega), ih]
        · rw [if_neg g, show varsR qs pe.length (e :: es) p = ([], 17) by rw [varsR, if_neg g]]
          rfl
      simp only [cond_true, Option.bind_some, unknown_ok F pe.length (by omega), joinM]
      refine cond_both (fun c => ?_) (fun c => ?_)
      · have c : pe.length < qs.length := by simp at c; omega
        rw [idx_nat, List.getElem?_eq_getElem c]
        rw [show qs[pe.length] = qv qs pe.length by unfold qv; simp [c]]
        exact step
      · have c : ¬ pe.length < qs.length := by simp at c; omega
        rw [show [unitT pe.length] = qv qs pe.length by unfold qv; simp [List.getElem?_eq_none (show qs.length ≤ pe.length by omega)]]
        exact step
theorem put_loop (F : Nat) (hF : 1000 ≤ F) {p : List api_Term} (hp : Good p) {qs : List (List api_Term)} (hq : QG qs) : ∀ (l pre : List api_Term) (n : Nat) (acc : List api_Term), Good acc → p = pre ++ l → l.length < n →
    poly_Put_L0 F p qs n acc (pre.length : Int) = some (putR qs l acc)
  | [], pre, n, acc, ha, h, hn => by
    cases n with
    | zero => omega
    | succ n => rw [poly_Put_L0, h]; simp [putR]
  | t :: l, pre, n, acc, ha, h, hn => by
    cases n with
    | zero => omega
    | succ n =>
      have hla := hp.len
      have hlen : pre.length < p.length := by rw [h]; simp
      have hidx : idx p (pre.length : Int) = some t := by rw [h]; exact idx_mid _ _ _
      have htm : t ∈ p := by rw [h]; simp
      have hg := vars_good hq (key t) 0 (num_good t.Coef)
      have ih := fun acc ha => put_loop F hF hp hq l (pre ++ [t]) n acc ha (by simp [h]) (by simp at hn; omega)
      simp only [List.length_append, List.length_singleton] at ih
      rw [poly_Put_L0]
      have hlt : decide ((pre.length : Int) < (p.length : Int)) = true := by simp; omega
      rw [hlt]
      simp only [cond_true, hidx, Option.bind_some, num_ok, joinM]
      refine (put_vars F hF hq t _ (key t) [] F (NumR t.Coef).1 (num_good _) rfl (by rw [key_len]; omega) (hp.exps htm)).trans ?_
      simp only [List.length_nil]
      by_cases g : (varsR qs 0 (key t) (NumR t.Coef).1).2 = 0
      · rw [if_pos g]
        simp only [add_ok F hF ha.fit hg.fit, Option.bind_some, wrapS _ (show pre.length < 9223372036854775807 by omega)]
        by_cases d : (Res (acc ++ (varsR qs 0 (key t) (NumR t.Coef).1).1)).2 = 0
        · have db : ((Res (acc ++ (varsR qs 0 (key t) (NumR t.Coef).1).1)).2 != 0) = false := by simpa using d
          rw [db, putR, if_pos g, if_pos d]
          exact ih _ (add_good ha hg)
        · rw [putR, if_pos g, if_neg d, res_other d]; rfl
      · rw [if_neg g, putR, if_neg g]
theorem put_ok (F : Nat) (hF : 1000 ≤ F) {p : List api_Term} (hp : Good p) {qs : List (List api_Term)} (hq : QG qs) : poly_Put F p qs = some (putR qs p []) := by
  have := put_loop F hF hp hq p [] F [] good_nil rfl (by have := hp.len; omega)
  simpa [poly_Put] using this

/-! What it is worth. -/
theorem res_val {l : List api_Term} (h : (Res l).2 = 0) (v : List Int) : val (Res l).1 v = val l v := by
  rw [(res_zero h).2]; unfold val; rw [norm_dot]
theorem pow_val {q : List api_Term} (hq : Good q) (v : List Int) : ∀ (n : Nat) {p : List api_Term}, Good p → (powR q n p).2 = 0 → val (powR q n p).1 v = val p v * pw (val q v) n
  | 0, p, hp, h => by simp [powR, pw]
  | n + 1, p, hp, h => by
    rw [powR] at h ⊢
    by_cases g : (Res (prodL p q)).2 = 0
    · rw [if_pos g] at h ⊢
      rw [pow_val hq v n (mul_good hp hq) h, res_val g, val_prod hp.nn hq.nn, pw, Int.mul_assoc]
    · rw [if_neg g] at h; cases h
theorem vars_val {qs : List (List api_Term)} (hq : QG qs) (v w : List Int) : ∀ (es : List Int) (i : Nat) {p : List api_Term}, (∀ j, i ≤ j → j < i + es.length → vv w j = val (qv qs j) v) → Good p → (varsR qs i es p).2 = 0 → val (varsR qs i es p).1 v = val p v * mon w i es
  | [], i, p, hw, hp, h => by simp [varsR, mon]
  | e :: es, i, p, hw, hp, h => by
    rw [varsR] at h ⊢
    by_cases g : (powR (qv qs i) e.toNat p).2 = 0
    · rw [if_pos g] at h ⊢
      rw [vars_val hq v w es (i + 1) (fun j h1 h2 => hw j (by omega) (by simp; omega)) (pow_good (qv_good hq i) _ hp) h, pow_val (qv_good hq i) v _ hp g, mon, hw i (Nat.le_refl _) (by simp), Int.mul_assoc]
    · rw [if_neg g] at h; cases h
theorem num_val {n : Int} (h1 : 1 ≤ n) (h2 : n ≤ 1099511627776) (v : List Int) : val (NumR n).1 v = n := by
  unfold NumR
  rw [if_neg (by omega), if_neg (by omega)]
  have : ∀ (m i : Nat), mon v i (List.replicate m 0) = 1 := by
    intro m
    induction m with
    | zero => intro i; rfl
    | succ m ih => intro i; rw [List.replicate_succ, mon, ih]; simp [pw]
  show n * mon v 0 (List.replicate 12 0) + 0 = n
  rw [this]; omega
theorem put_val {p : List api_Term} (hp : Good p) {qs : List (List api_Term)} (hq : QG qs) (v w : List Int) (hw : ∀ j, j < 12 → vv w j = val (qv qs j) v) : ∀ (l : List api_Term) {acc : List api_Term}, (∀ t ∈ l, t ∈ p) → Good acc → (putR qs l acc).2 = 0 → val (putR qs l acc).1 v = val acc v + val l w
  | [], acc, _, ha, h => by simp [putR, dot]
  | t :: l, acc, hl, ha, h => by
    have htm := hl t List.mem_cons_self
    rw [putR] at h ⊢
    by_cases g : (varsR qs 0 (key t) (NumR t.Coef).1).2 = 0
    · rw [if_pos g] at h ⊢
      have hg := vars_good hq (key t) 0 (num_good t.Coef)
      by_cases d : (Res (acc ++ (varsR qs 0 (key t) (NumR t.Coef).1).1)).2 = 0
      · rw [if_pos d] at h ⊢
        rw [put_val hp hq v w hw l (fun s hs => hl s (List.mem_cons_of_mem _ hs)) (add_good ha hg) h, res_val d]
        have e1 := vars_val hq v w (key t) 0 (fun j h1 h2 => hw j (by rw [key_len] at h2; omega)) (num_good t.Coef) g
        rw [num_val (hp.coef htm).1 (hp.coef htm).2] at e1
        show val (acc ++ _) v + _ = val acc v + (t.Coef * g0 w (key t) + val l w)
        unfold val at e1 ⊢
        rw [dot_append, e1]; unfold g0; omega
      · rw [if_neg d] at h; cases h
    · rw [if_neg g] at h; cases h
theorem mon_unit (v : List Int) : ∀ (m i n : Nat), i < m → mon v n ((List.replicate m (0 : Int)).set i 1) = vv v (n + i)
  | 0, i, n, h => by omega
  | m + 1, 0, n, h => by
    have : ∀ (m i : Nat), mon v i (List.replicate m 0) = 1 := by
      intro m
      induction m with
      | zero => intro i; rfl
      | succ m ih => intro i; rw [List.replicate_succ, mon, ih]; simp [pw]
    rw [List.replicate_succ, List.set_cons_zero, mon, this]; simp [pw]
  | m + 1, i + 1, n, h => by
    rw [List.replicate_succ, List.set_cons_succ, mon, mon_unit v m i (n + 1) (by omega)]
    simp [pw]; congr 1; omega
theorem unit_val (v : List Int) (i : Nat) (hi : i < 12) : val [unitT i] v = vv v i := by
  show 1 * mon v 0 ((List.replicate 12 (0 : Int)).set i 1) + 0 = _
  rw [mon_unit v 12 i 0 hi]; simp
end Go.Proofs.Ytfbkgjmpadknfaa.M
