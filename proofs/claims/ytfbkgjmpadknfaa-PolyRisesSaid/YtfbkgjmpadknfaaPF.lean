/-
  Sums of terms: their values.
-/
import Derived.Test.YtfbkgjmpadknfaaPE
namespace Go.Proofs.Ytfbkgjmpadknfaa.M
open Go.Proofs.YtfbkgjmpadknfaaW.Ah Go.Proofs.Ytfbkgjmpadknfaa
set_option linter.unusedVariables false
set_option linter.unusedSimpArgs false

/-- What variable i is. -/
def vv (l : List Int) (i : Nat) : Int := if l.getD i 0 < 0 then 0 else l.getD i 0
theorem vv_nonneg (l : List Int) (i : Nat) : 0 ≤ vv l i := by unfold vv; split <;> omega
def pw (w : Int) : Nat → Int
  | 0 => 1
  | n + 1 => w * pw w n
theorem pw_nonneg {w : Int} (h : 0 ≤ w) : ∀ n, 0 ≤ pw w n
  | 0 => by simp [pw]
  | n + 1 => Int.mul_nonneg h (pw_nonneg h n)
theorem mul_one_le {a b : Int} (ha : 1 ≤ a) (hb : 1 ≤ b) : 1 ≤ a * b := by
  have := Int.mul_le_mul ha hb (by omega) (by omega); omega
theorem le_mul_one {a b : Int} (ha : 0 ≤ a) (hb : 1 ≤ b) : a ≤ a * b := by
  have := Int.mul_le_mul_of_nonneg_left hb ha; omega
theorem pw_pos {w : Int} (h : 1 ≤ w) : ∀ n, 1 ≤ pw w n
  | 0 => by simp [pw]
  | n + 1 => mul_one_le h (pw_pos h n)
theorem pw_add (w : Int) : ∀ m n, pw w (m + n) = pw w m * pw w n
  | 0, n => by simp [pw]
  | m + 1, n => by rw [Nat.succ_add]; simp only [pw, pw_add w m n, Int.mul_assoc]
theorem pw_zero {n : Nat} (h : 0 < n) : pw 0 n = 0 := by
  cases n with
  | zero => omega
  | succ n => simp [pw]
theorem pw_mono {v w : Int} (h0 : 0 ≤ v) (h : v ≤ w) : ∀ n, pw v n ≤ pw w n
  | 0 => by simp [pw]
  | n + 1 => by
    simp only [pw]
    exact Int.mul_le_mul h (pw_mono h0 h n) (pw_nonneg h0 n) (by omega)

/-- What the exponents from variable i on come to. -/
def mon (l : List Int) : Nat → List Int → Int
  | _, [] => 1
  | i, e :: es => pw (vv l i) e.toNat * mon l (i + 1) es
/-- Whether no variable that is in is zero. -/
def nz (l : List Int) : Nat → List Int → Bool
  | _, [] => true
  | i, e :: es => !(decide (0 < e) && vv l i == 0) && nz l (i + 1) es
theorem mon_nonneg (l : List Int) : ∀ (es : List Int) (i : Nat), 0 ≤ mon l i es
  | [], i => by simp [mon]
  | e :: es, i => Int.mul_nonneg (pw_nonneg (vv_nonneg l i) _) (mon_nonneg l es (i + 1))
theorem mon_pos (l : List Int) : ∀ (es : List Int) (i : Nat), nz l i es = true → 1 ≤ mon l i es
  | [], i, _ => by simp [mon]
  | e :: es, i, h => by
    simp only [nz, Bool.and_eq_true] at h
    refine mul_one_le ?_ (mon_pos l es (i + 1) h.2)
    have h1 := h.1
    have h2 := vv_nonneg l i
    by_cases c : 0 < e
    · have : vv l i ≠ 0 := by simpa [c] using h1
      exact pw_pos (by omega) _
    · rw [show e.toNat = 0 by omega]; simp [pw]
theorem mon_zero (l : List Int) : ∀ (es : List Int) (i : Nat), nz l i es = false → mon l i es = 0
  | [], i, h => by cases h
  | e :: es, i, h => by
    simp only [nz, Bool.and_eq_false_iff] at h
    rcases h with h | h
    · simp at h
      simp only [mon]; rw [h.2, pw_zero (by omega)]; simp
    · simp only [mon]; rw [mon_zero l es (i + 1) h]; simp

theorem valued_one (F : Nat) (l : List Int) (hl : l.length ≤ maxLen) (i : Nat) : poly_valued_1 F (i : Int) l = some (vv l i) := by
  unfold poly_valued_1 vv
  by_cases c : l.length ≤ i
  · have : (l.length : Int) ≤ (i : Int) := by omega
    simp [this, List.getElem?_eq_none c]
  · have h1 : ¬ (l.length : Int) ≤ (i : Int) := by omega
    have h2 : i < l.length := by omega
    simp [h1, idx_nat, List.getElem?_eq_getElem h2]

theorem over_lt {v w : Int} {r : Int} (hv : 0 ≤ v) (hw : 0 ≤ w) (hr : 1 ≤ r) (h : 1099511627776 < v * w) : ¬ v * (w * r) ≤ 1099511627776 := by
  rw [← Int.mul_assoc]
  have := le_mul_one (Int.mul_nonneg hv hw) hr
  omega

theorem valued_pow (F : Nat) (l : List Int) (hl : l.length ≤ maxLen) (i : Nat) (e : Int) (he : e ≤ 200) (K : Int → Option (Int × Bool)) : ∀ (r c n : Nat) (v : Int), (c : Int) + r = e → r < n → 0 ≤ v → v ≤ 1099511627776 → (0 < r → 1 ≤ vv l i) →
    poly_valued_L2 F l (i : Int) e K n v (c : Int) = if v * pw (vv l i) r ≤ 1099511627776 then K (v * pw (vv l i) r) else some (0, false)
  | 0, c, n, v, hc, hn, h0, h1, hw => by
    cases n with
    | zero => omega
    | succ n =>
      rw [poly_valued_L2]
      have : ¬ (c : Int) < e := by omega
      simp [this, pw, h1]
  | r + 1, c, n, v, hc, hn, h0, h1, hw => by
    cases n with
    | zero => omega
    | succ n =>
      have hw1 := hw (by omega)
      rw [show pw (vv l i) (r + 1) = vv l i * pw (vv l i) r from rfl]
      rw [poly_valued_L2]
      have : (c : Int) < e := by omega
      simp only [this, decide_true, cond_true, valued_one F l hl, Option.bind_some, quo_ok hw1, quo_lt hw1]
      by_cases g : 1099511627776 < v * vv l i
      · simp only [g, decide_true, cond_true]
        rw [if_neg (over_lt h0 (by omega) (pw_pos hw1 r) g)]
      · have hp := Int.mul_nonneg h0 (vv_nonneg l i)
        simp only [g, decide_false, cond_false, wrap_ok (show -9223372036854775808 ≤ v * vv l i by omega) (by omega), wrap_u8 (show 0 ≤ (c : Int) + 1 by omega) (by omega)]
        have ih := valued_pow F l hl i e he K r (c + 1) n (v * vv l i) (by omega) (by omega) hp (by omega) (fun _ => hw1)
        rw [show ((c : Int) + 1) = ((c + 1 : Nat) : Int) by omega, ih]
        simp only [pw, Int.mul_assoc]

theorem valued_mon (F : Nat) (hF : 1000 ≤ F) (t : api_Term) (l : List Int) (hl : l.length ≤ maxLen) : ∀ (es pe : List Int) (n : Nat) (v : Int), key t = pe ++ es → es.length < n → (∀ e ∈ es, 0 ≤ e ∧ e ≤ 6) → 0 ≤ v → v ≤ 1099511627776 → nz l pe.length es = true →
    poly_valued_L1 F t l n v (pe.length : Int) = some (if v * mon l pe.length es ≤ 1099511627776 then (v * mon l pe.length es, true) else (0, false))
  | [], pe, n, v, h, hn, _, h0, h1, _ => by
    cases n with
    | zero => omega
    | succ n =>
      have h2 := key_len t; rw [h] at h2; simp at h2
      rw [poly_valued_L1]
      simp [h2, mon, h1]
  | e :: es, pe, n, v, h, hn, hu, h0, h1, hz => by
    cases n with
    | zero => omega
    | succ n =>
      have h2 := key_len t; rw [h] at h2; simp at h2
      obtain ⟨e1, e2⟩ := hu e List.mem_cons_self
      rw [poly_valued_L1]
      have hlt : decide ((pe.length : Int) < 12) = true := by simp; omega
      rw [hlt, show t.Exps.1 = pe ++ e :: es from h, idx_mid, show mon l pe.length (e :: es) = pw (vv l pe.length) e.toNat * mon l (pe.length + 1) es from rfl]
      simp only [nz, Bool.and_eq_true] at hz
      simp only [cond_true, Option.bind_some, joinM]
      refine (valued_pow F l hl pe.length e (by omega) _ e.toNat 0 F v (by omega) (by omega) h0 h1 (fun hr => by
        have h3 := hz.1
        have h4 := vv_nonneg l pe.length
        have : vv l pe.length ≠ 0 := by simpa [show 0 < e by omega] using h3
        omega)).trans ?_
      have hm := mon_pos l es (pe.length + 1) hz.2
      have hp := pw_nonneg (vv_nonneg l pe.length) e.toNat
      by_cases g : v * pw (vv l pe.length) e.toNat ≤ 1099511627776
      · rw [if_pos g]
        have ih := valued_mon F hF t l hl es (pe ++ [e]) n (v * pw (vv l pe.length) e.toNat) (by simp [h]) (by simp at hn; omega) (fun x hx => hu x (List.mem_cons_of_mem _ hx)) (Int.mul_nonneg h0 hp) g (by simpa using hz.2)
        simp only [List.length_append, List.length_singleton] at ih
        rw [wrapS _ (show pe.length < 9223372036854775807 by omega), ih, Int.mul_assoc]
      · rw [if_neg g, if_neg (over_lt h0 hp hm (by omega))]

theorem valued_nz (F : Nat) (t : api_Term) (l : List Int) (hl : l.length ≤ maxLen) (K : Unit → Option (Int × Bool)) : ∀ (es pe : List Int) (n : Nat), key t = pe ++ es → es.length < n →
    poly_valued_L0 F t l K n (pe.length : Int) = if nz l pe.length es = true then K () else some (0, true)
  | [], pe, n, h, hn => by
    cases n with
    | zero => omega
    | succ n =>
      have h2 := key_len t; rw [h] at h2; simp at h2
      rw [poly_valued_L0]
      simp [h2, nz]
  | e :: es, pe, n, h, hn => by
    cases n with
    | zero => omega
    | succ n =>
      have h2 := key_len t; rw [h] at h2; simp at h2
      have ih := valued_nz F t l hl K es (pe ++ [e]) n (by simp [h]) (by simp at hn; omega)
      simp only [List.length_append, List.length_singleton] at ih
      rw [poly_valued_L0]
      have hlt : decide ((pe.length : Int) < 12) = true := by simp; omega
      rw [hlt, show t.Exps.1 = pe ++ e :: es from h, idx_mid]
      simp only [cond_true, Option.bind_some, joinM, valued_one F l hl, wrapS _ (show pe.length < 9223372036854775807 by omega), ih, nz]
      by_cases c : 0 < e
      · by_cases z : vv l pe.length = 0
        · simp [c, z]
        · have zb : (vv l pe.length == 0) = false := by simpa using z
          simp [c, zb]
      · simp [c]

/-- What a term is worth. -/
abbrev g0 (l : List Int) : List Int → Int := mon l 0
theorem valued_ok (F : Nat) (hF : 1000 ≤ F) (t : api_Term) (l : List Int) (hl : l.length ≤ maxLen) (h1 : ∀ e ∈ key t, 0 ≤ e ∧ e ≤ 6) (h2 : 1 ≤ t.Coef) (h3 : t.Coef ≤ 1099511627776) :
    poly_valued F t l = some (if t.Coef * g0 l (key t) ≤ 1099511627776 then (t.Coef * g0 l (key t), true) else (0, false)) := by
  unfold poly_valued joinM
  have ha := valued_nz F t l hl (fun x => poly_valued_L1 F t l F t.Coef 0) (key t) [] F rfl (by rw [key_len]; omega)
  have hb := valued_mon F hF t l hl (key t) [] F t.Coef rfl (by rw [key_len]; omega) h1 (by omega) h3
  simp only [List.length_nil, Int.natCast_zero] at ha hb
  dsimp only
  rw [ha]
  cases hz : nz l 0 (key t) with
  | true => rw [if_pos rfl, hb hz]
  | false => simp [g0, mon_zero l _ _ hz]

theorem dot_nonneg {g : List Int → Int} (hg : ∀ k, 0 ≤ g k) : ∀ {p : List api_Term}, Pos p → 0 ≤ dot g p
  | [], _ => by simp [dot]
  | t :: p, h => by
    have h1 := h t List.mem_cons_self
    have := Int.mul_nonneg (show 0 ≤ t.Coef by omega) (hg (key t))
    have := dot_nonneg hg h.tail
    simp only [dot]; omega
theorem g0_nonneg (l : List Int) (k : List Int) : 0 ≤ g0 l k := mon_nonneg l k 0

abbrev val (p : List api_Term) (l : List Int) : Int := dot (g0 l) p
theorem at_loop (F : Nat) (hF : 1000 ≤ F) (p : List api_Term) (hp : Good p) (l : List Int) (hl : l.length ≤ maxLen) : ∀ (q pre : List api_Term) (n : Nat) (v : Int), p = pre ++ q → q.length < n → 0 ≤ v → v ≤ 1099511627776 →
    poly_At_L0 F p l n v (pre.length : Int) = some (if v + val q l ≤ 1099511627776 then (v + val q l, 0) else (0, 17))
  | [], pre, n, v, h, hn, h0, h1 => by
    cases n with
    | zero => omega
    | succ n =>
      rw [poly_At_L0, h]
      simp [dot, h1]
  | t :: q, pre, n, v, h, hn, h0, h1 => by
    cases n with
    | zero => omega
    | succ n =>
      have hla := hp.len
      have hlen : pre.length < p.length := by rw [h]; simp
      have hidx : idx p (pre.length : Int) = some t := by rw [h]; exact idx_mid _ _ _
      have htm : t ∈ p := by rw [h]; simp
      obtain ⟨t1, t2⟩ := hp.coef htm
      have hq : Pos q := fun x hx => hp.pos x (by rw [h]; exact List.mem_append_right _ (List.mem_cons_of_mem _ hx))
      have hn0 : 0 ≤ val q l := dot_nonneg (g0_nonneg l) hq
      have ht0 := Int.mul_nonneg (show 0 ≤ t.Coef by omega) (g0_nonneg l (key t))
      rw [poly_At_L0]
      have hlt : decide ((pre.length : Int) < (p.length : Int)) = true := by simp; omega
      rw [hlt, show val (t :: q) l = t.Coef * g0 l (key t) + val q l from rfl]
      simp only [cond_true, hidx, Option.bind_some, valued_ok F hF t l hl (hp.exps htm) t1 t2]
      by_cases c : t.Coef * g0 l (key t) ≤ 1099511627776
      · rw [if_pos c]
        simp only [Bool.not_true, Bool.false_or, wrap_ok (show -9223372036854775808 ≤ 1099511627776 - v by omega) (by omega)]
        by_cases d : 1099511627776 - v < t.Coef * g0 l (key t)
        · simp only [d, decide_true, cond_true]
          rw [if_neg (by omega)]
        · simp only [d, decide_false, cond_false]
          rw [wrap_ok (by omega) (by omega), wrapS _ (by omega)]
          have ih := at_loop F hF p hp l hl q (pre ++ [t]) n (v + t.Coef * g0 l (key t)) (by simp [h]) (by simp at hn; omega) (by omega) (by omega)
          simp only [List.length_append, List.length_singleton] at ih
          rw [ih, Int.add_assoc]
      · rw [if_neg c, if_neg (by omega)]; rfl
theorem at_ok (F : Nat) (hF : 1000 ≤ F) {p : List api_Term} (hp : Good p) (l : List Int) (hl : l.length ≤ maxLen) :
    poly_At F p l = some (if val p l ≤ 1099511627776 then (val p l, 0) else (0, 17)) := by
  have := at_loop F hF p hp l hl p [] F 0 rfl (by have := hp.len; omega) (by omega) (by omega)
  simpa [poly_At] using this

/-- What a value comes to. -/
def atV (p : List api_Term) (l : List Int) : Int × Int := if val p l ≤ 1099511627776 then (val p l, 0) else (0, 17)
theorem at_ok' (F : Nat) (hF : 1000 ≤ F) {p : List api_Term} (hp : Good p) (l : List Int) (hl : l.length ≤ maxLen) : poly_At F p l = some (atV p l) := at_ok F hF hp l hl
theorem atV_zero {p : List api_Term} {l : List Int} (h : (atV p l).2 = 0) : val p l ≤ 1099511627776 ∧ (atV p l).1 = val p l := by
  unfold atV at h ⊢
  split
  · rename_i c; exact ⟨c, rfl⟩
  · rename_i c; rw [if_neg c] at h; cases h
theorem atV_iff (p : List api_Term) (l : List Int) : (atV p l).2 = 0 ↔ val p l ≤ 1099511627776 := by
  unfold atV; split <;> simp_all
end Go.Proofs.Ytfbkgjmpadknfaa.M
