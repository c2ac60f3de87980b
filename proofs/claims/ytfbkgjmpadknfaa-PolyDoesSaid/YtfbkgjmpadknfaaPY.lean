/-
  Sums of terms: values, the greater, parts.
-/
import Derived.Test.YtfbkgjmpadknfaaPX
namespace Go.Proofs.Ytfbkgjmpadknfaa.M
open Go.Proofs.YtfbkgjmpadknfaaW.Ah Go.Proofs.Ytfbkgjmpadknfaa
set_option linter.unusedVariables false
set_option linter.unusedSimpArgs false

/-- What variable i is. -/
def vv (l : List Int) (i : Nat) : Int := if l.getD i 0 < 0 then 0 else l.getD i 0
theorem vv_nonneg (l : List Int) (i : Nat) : 0 ≤ vv l i := by unfold vv; split <;> omega
def pw (w : Int) : Nat → Int
  | 0 => 1
  | n + 1 => w * pw w n
theorem pw_nonneg {w : Int} (h : 0 ≤ w) : ∀ n, 0 ≤ pw w n
  | 0 => by simp [pw]
  | n + 1 => Int.mul_nonneg h (pw_nonneg h n)
theorem mul_one_le {a b : Int} (ha : 1 ≤ a) (hb : 1 ≤ b) : 1 ≤ a * b := by
  have := Int.mul_le_mul ha hb (by omega) (by omega); omega
theorem le_mul_one {a b : Int} (ha : 0 ≤ a) (hb : 1 ≤ b) : a ≤ a * b := by
  have := Int.mul_le_mul_of_nonneg_left hb ha; omega
theorem pw_pos {w : Int} (h : 1 ≤ w) : ∀ n, 1 ≤ pw w n
  | 0 => by simp [pw]
  | n + 1 => mul_one_le h (pw_pos h n)
theorem pw_add (w : Int) : ∀ m n, pw w (m + n) = pw w m * pw w n
  | 0, n => by simp [pw]
  | m + 1, n => by rw [Nat.succ_add]; simp only [pw, pw_add w m n, Int.mul_assoc]
theorem pw_zero {n : Nat} (h : 0 < n) : pw 0 n = 0 := by
  cases n with
  | zero => omega
  | succ n => simp [pw]
theorem pw_mono {v w : Int} (h0 : 0 ≤ v) (h : v ≤ w) : ∀ n, pw v n ≤ pw w n
  | 0 => by simp [pw]
  | n + 1 => by
    simp only [pw]
    exact Int.mul_le_mul h (pw_mono h0 h n) (pw_nonneg h0 n) (by omega)

/-- What the exponents from variable i on come to. -/
def mon (l : List Int) : Nat → List Int → Int
  | _, [] => 1
  | i, e :: es => pw (vv l i) e.toNat * mon l (i + 1) es
/-- Whether no variable that is in is zero. -/
def nz (l : List Int) : Nat → List Int → Bool
  | _, [] => true
  | i, e :: es => !(decide (0 < e) && vv l i == 0) && nz l (i + 1) es
theorem mon_nonneg (l : List Int) : ∀ (es : List Int) (i : Nat), 0 ≤ mon l i es
  | [], i => by simp [mon]
  | e :: es, i => Int.mul_nonneg (pw_nonneg (vv_nonneg l i) _) (mon_nonneg l es (i + 1))
theorem mon_pos (l : List Int) : ∀ (es : List Int) (i : Nat), nz l i es = true → 1 ≤ mon l i es
  | [], i, _ => by simp [mon]
  | e :: es, i, h => by
    simp only [nz, Bool.and_eq_true] at h
    refine mul_one_le ?_ (mon_pos l es (i + 1) h.2)
    have h1 := h.1
    have h2 := vv_nonneg l i
    by_cases c : 0 < e
    · have : vv l i ≠ 0 := by simpa [c] using h1
      exact pw_pos (by omega) _
    · rw [show e.toNat = 0 by omega]; simp [pw]
theorem mon_zero (l : List Int) : ∀ (es : List Int) (i : Nat), nz l i es = false → mon l i es = 0
  | [], i, h => by cases h
  | e :: es, i, h => by
    simp only [nz, Bool.and_eq_false_iff] at h
    rcases h with h | h
    · simp at h
      simp only [mon]; rw [h.2, pw_zero (by omega)]; simp
    · simp only [mon]; rw [mon_zero l es (i + 1) h]; simp

theorem valued_one (F : Nat) (l : List Int) (hl : l.length ≤ maxLen) (i : Nat) : poly_valued_1 F (i : Int) l = some (vv l i) := by
  unfold poly_valued_1 vv
  by_cases c : l.length ≤ i
  · have : (l.length : Int) ≤ (i : Int) := by omega
    simp [this, List.getElem?_eq_none c]
  · have h1 : ¬ (l.length : Int) ≤ (i : Int) := by omega
    have h2 : i < l.length := by omega
    simp [h1, idx_nat, List.getElem?_eq_getElem h2]

theorem over_lt {v w : Int} {r : Int} (hv : 0 ≤ v) (hw : 0 ≤ w) (hr : 1 ≤ r) (h : 1099511627776 < v * w) : ¬ v * (w * r) ≤ 1099511627776 := by
  rw [← Int.mul_assoc]
  have := le_mul_one (Int.mul_nonneg hv hw) hr
  omega

theorem valued_pow (F : Nat) (l : List Int) (hl : l.length ≤ maxLen) (i : Nat) (e : Int) (he : e ≤ 200) (K : Int → Option (Int × Bool)) : ∀ (r c n : Nat) (v : Int), (c : Int) + r = e → r < n → 0 ≤ v → v ≤ 1099511627776 → (0 < r → 1 ≤ vv l i) →
    poly_valued_L2 F l (i : Int) e K n v (c : Int) = if v * pw (vv l i) r ≤ 1099511627776 then K (v * pw (vv l i) r) else some (0, false)
  | 0, c, n, v, hc, hn, h0, h1, hw => by
    cases n with
    | zero => omega
    | succ n =>
      rw [poly_valued_L2]
      have : ¬ (c : Int) < e := by omega
      simp [this, pw, h1]
  | r + 1, c, n, v, hc, hn, h0, h1, hw => by
    cases n with
    | zero => omega
    | succ n =>
      have hw1 := hw (by omega)
      rw [show pw (vv l i) (r + 1) = vv l i * pw (vv l i) r from rfl]
      rw [poly_valued_L2]
      have : (c : Int) < e := by omega
      simp only [this, decide_true, cond_true, valued_one F l hl, Option.bind_some, quo_ok hw1, quo_lt hw1]
      by_cases g : 1099511627776 < v * vv l i
      · simp only [g, decide_true, cond_true]
        rw [if_neg (over_lt h0 (by omega) (pw_pos hw1 r) g)]
      · have hp := Int.mul_nonneg h0 (vv_nonneg l i)
        simp only [g, decide_false, cond_false, wrap_ok (show -9223372036854775808 ≤ v * vv l i by omega) (by omega), wrap_u8 (show 0 ≤ (c : Int) + 1 by omega) (by omega)]
        have ih := valued_pow F l hl i e he K r (c + 1) n (v * vv l i) (by omega) (by omega) hp (by omega) (fun _ => hw1)
        rw [show ((c : Int) + 1) = ((c + 1 : Nat) : Int) by omega, ih]
        simp only [pw, Int.mul_assoc]

theorem valued_mon (F : Nat) (hF : 1000 ≤ F) (t : api_Term) (l : List Int) (hl : l.length ≤ maxLen) : ∀ (es pe : List Int) (n : Nat) (v : Int), key t = pe ++ es → es.length < n → (∀ e ∈ es, 0 ≤ e ∧ e ≤ 6) → 0 ≤ v → v ≤ 1099511627776 → nz l pe.length es = true →
    poly_valued_L1 F t l n v (pe.length : Int) = some (if v * mon l pe.length es ≤ 1099511627776 then (v * mon l pe.length es, true) else (0, false))
  | [], pe, n, v, h, hn, _, h0, h1, _ => by
    cases n with
    | zero => omega
    | succ n =>
      have h2 := key_len t; rw [h] at h2; simp at h2
      rw [poly_valued_L1]
      simp [h2, mon, h1]
  | e :: es, pe, n, v, h, hn, hu, h0, h1, hz => by
    cases n with
    | zero => omega
    | succ n =>
      have h2 := key_len t; rw [h] at h2; simp at h2
      obtain ⟨e1, e2⟩ := hu e List.mem_cons_self
      rw [poly_valued_L1]
      have hlt : decide ((pe.length : Int) < 12) = true := by simp; omega
      rw [hlt, show t.Exps.1 = pe ++ e :: es from h, idx_mid, show mon l pe.length (e :: es) = pw (vv l pe.length) e.toNat * mon l (pe.length + 1) es from rfl]
      simp only [nz, Bool.and_eq_true] at hz
      simp only [cond_true, Option.bind_some, joinM]
      refine (valued_pow F l hl pe.length e (by omega) _ e.toNat 0 F v (by omega) (by omega) h0 h1 (fun hr => by
        have h3 := hz.1
        have h4 := vv_nonneg l pe.length
        have : vv l pe.length ≠ 0 := by simpa [show 0 < e by omega] using h3
        omega)).trans ?_
      have hm := mon_pos l es (pe.length + 1) hz.2
      have hp := pw_nonneg (vv_nonneg l pe.length) e.toNat
      by_cases g : v * pw (vv l pe.length) e.toNat ≤ 1099511627776
      · rw [if_pos g]
        have ih := valued_mon F hF t l hl es (pe ++ [e]) n (v * pw (vv l pe.length) e.toNat) (by simp [h]) (by simp at hn; omega) (fun x hx => hu x (List.mem_cons_of_mem _ hx)) (Int.mul_nonneg h0 hp) g (by simpa using hz.2)
        simp only [List.length_append, List.length_singleton] at ih
        rw [wrapS _ (show pe.length < 9223372036854775807 by omega), ih, Int.mul_assoc]
      · rw [if_neg g, if_neg (over_lt h0 hp hm (by omega))]

theorem valued_nz (F : Nat) (t : api_Term) (l : List Int) (hl : l.length ≤ maxLen) (K : Unit → Option (Int × Bool)) : ∀ (es pe : List Int) (n : Nat), key t = pe ++ es → es.length < n →
    poly_valued_L0 F t l K n (pe.length : Int) = if nz l pe.length es = true then K () else some (0, true)
  | [], pe, n, h, hn => by
    cases n with
    | zero => omega
    | succ n =>
      have h2 := key_len t; rw [h] at h2; simp at h2
      rw [poly_valued_L0]
      simp [h2, nz]
  | e :: es, pe, n, h, hn => by
    cases n with
    | zero => omega
    | succ n =>
      have h2 := key_len t; rw [h] at h2; simp at h2
      have ih := valued_nz F t l hl K es (pe ++ [e]) n (by simp [h]) (by simp at hn; omega)
      simp only [List.length_append, List.length_singleton] at ih
      rw [poly_valued_L0]
      have hlt : decide ((pe.length : Int) < 12) = true := by simp; omega
      rw [hlt, show t.Exps.1 = pe ++ e :: es from h, idx_mid]
      simp only [cond_true, Option.bind_some, joinM, valued_one F l hl, wrapS _ (show pe.length < 9223372036854775807 by omega), ih, nz]
      by_cases c : 0 < e
      · by_cases z : vv l pe.length = 0
        · simp [c, z]
        · have zb : (vv l pe.length == 0) = false := by simpa using z
          simp [c, zb]
      · simp [c]

/-- What a term is worth. -/
abbrev g0 (l : List Int) : List Int → Int := mon l 0
theorem valued_ok (F : Nat) (hF : 1000 ≤ F) (t : api_Term) (l : List Int) (hl : l.length ≤ maxLen) (h1 : ∀ e ∈ key t, 0 ≤ e ∧ e ≤ 6) (h2 : 1 ≤ t.Coef) (h3 : t.Coef ≤ 1099511627776) :
    poly_valued F t l = some (if t.Coef * g0 l (key t) ≤ 1099511627776 then (t.Coef * g0 l (key t), true) else (0, false)) := by
  unfold poly_valued joinM
  have ha := valued_nz F t l hl (fun x => poly_valued_L1 F t l F t.Coef 0) (key t) [] F rfl (by rw [key_len]; omega)
  have hb := valued_mon F hF t l hl (key t) [] F t.Coef rfl (by rw [key_len]; omega) h1 (by omega) h3
  simp only [List.length_nil, Int.natCast_zero] at ha hb
  dsimp only
  rw [ha]
  cases hz : nz l 0 (key t) with
  | true => rw [if_pos rfl, hb hz]
  | false => simp [g0, mon_zero l _ _ hz]

theorem dot_nonneg {g : List Int → Int} (hg : ∀ k, 0 ≤ g k) : ∀ {p : List api_Term}, Pos p → 0 ≤ dot g p
  | [], _ => by simp [dot]
  | t :: p, h => by
    have h1 := h t List.mem_cons_self
    have := Int.mul_nonneg (show 0 ≤ t.Coef by omega) (hg (key t))
    have := dot_nonneg hg h.tail
    simp only [dot]; omega
theorem g0_nonneg (l : List Int) (k : List Int) : 0 ≤ g0 l k := mon_nonneg l k 0

abbrev val (p : List api_Term) (l : List Int) : Int := dot (g0 l) p
theorem at_loop (F : Nat) (hF : 1000 ≤ F) (p : List api_Term) (hp : Good p) (l : List Int) (hl : l.length ≤ maxLen) : ∀ (q pre : List api_Term) (n : Nat) (v : Int), p = pre ++ q → q.length < n → 0 ≤ v → v ≤ 1099511627776 →
    poly_At_L0 F p l n v (pre.length : Int) = some (if v + val q l ≤ 1099511627776 then (v + val q l, 0) else (0, 17))
  | [], pre, n, v, h, hn, h0, h1 => by
    cases n with
    | zero => omega
    | succ n =>
      rw [poly_At_L0, h]
      simp [dot, h1]
  | t :: q, pre, n, v, h, hn, h0, h1 => by
    cases n with
    | zero => omega
    | succ n =>
      have hla := hp.len
      have hlen : pre.length < p.length := by rw [h]; simp
      have hidx : idx p (pre.length : Int) = some t := by rw [h]; exact idx_mid _ _ _
      have htm : t ∈ p := by rw [h]; simp
      obtain ⟨t1, t2⟩ := hp.coef htm
      have hq : Pos q := fun x hx => hp.pos x (by rw [h]; exact List.mem_append_right _ (List.mem_cons_of_mem _ hx))
      have hn0 : 0 ≤ val q l := dot_nonneg (g0_nonneg l) hq
      have ht0 := Int.mul_nonneg (show 0 ≤ t.Coef by omega) (g0_nonneg l (key t))
      rw [poly_At_L0]
      have hlt : decide ((pre.length : Int) < (p.length : Int)) = true := by simp; omega
      rw [hlt, show val (t :: q) l = t.Coef * g0 l (key t) + val q l from rfl]
      simp only [cond_true, hidx, Option.bind_some, valued_ok F hF t l hl (hp.exps htm) t1 t2]
      by_cases c : t.Coef * g0 l (key t) ≤ 1099511627776
      · rw [if_pos c]
        simp only [Bool.not_true, Bool.false_or, wrap_ok (show -9223372036854775808 ≤ 1099511627776 - v by omega) (by omega)]
        by_cases d : 1099511627776 - v < t.Coef * g0 l (key t)
        · simp only [d, decide_true, cond_true]
          rw [if_neg (by omega)]
        · simp only [d, decide_false, cond_false]
          rw [wrap_ok (by omega) (by omega), wrapS _ (by omega)]
          have ih := at_loop F hF p hp l hl q (pre ++ [t]) n (v + t.Coef * g0 l (key t)) (by simp [h]) (by simp at hn; omega) (by omega) (by omega)
          simp only [List.length_append, List.length_singleton] at ih
          rw [ih, Int.add_assoc]
      · rw [if_neg c, if_neg (by omega)]; rfl
theorem at_ok (F : Nat) (hF : 1000 ≤ F) {p : List api_Term} (hp : Good p) (l : List Int) (hl : l.length ≤ maxLen) :
    poly_At F p l = some (if val p l ≤ 1099511627776 then (val p l, 0) else (0, 17)) := by
  have := at_loop F hF p hp l hl p [] F 0 rfl (by have := hp.len; omega) (by omega) (by omega)
  simpa [poly_At] using this

/-- What a value comes to. -/
def atV (p : List api_Term) (l : List Int) : Int × Int := if val p l ≤ 1099511627776 then (val p l, 0) else (0, 17)
theorem at_ok' (F : Nat) (hF : 1000 ≤ F) {p : List api_Term} (hp : Good p) (l : List Int) (hl : l.length ≤ maxLen) : poly_At F p l = some (atV p l) := at_ok F hF hp l hl
theorem atV_zero {p : List api_Term} {l : List Int} (h : (atV p l).2 = 0) : val p l ≤ 1099511627776 ∧ (atV p l).1 = val p l := by
  unfold atV at h ⊢
  split
  · rename_i c; exact ⟨c, rfl⟩
  · rename_i c; rw [if_neg c] at h; cases h
theorem atV_iff (p : List api_Term) (l : List Int) : (atV p l).2 = 0 ↔ val p l ≤ 1099511627776 := by
  unfold atV; split <;> simp_all

def maxT (s t : api_Term) : api_Term := { s with Coef := if s.Coef < t.Coef then t.Coef else s.Coef }
def mx (x y : Int) : Int := if x < y then y else x
theorem coef_below {a b : api_Term} {l : List api_Term} (hb : Srt (b :: l)) (hab : ltL (key a) (key b) = true) : coef (b :: l) (key a) = 0 := by
  refine coef_none (fun x hx => ?_)
  rcases List.mem_cons.1 hx with rfl | hx
  · exact fun e => ltL_ne hab e.symm
  · exact fun e => ltL_ne (ltL_trans hab ((List.pairwise_cons.1 hb).1 x hx)) e.symm
theorem coef_tail {t : api_Term} {l : List api_Term} (h : Srt (t :: l)) : coef l (key t) = 0 := by
  refine coef_none (fun s hs => ?_)
  have := (List.pairwise_cons.1 h).1 s hs
  exact fun e => ltL_ne this e.symm
theorem mx_pos {x y : Int} (h : 1 ≤ x) : 1 ≤ mx x y := by unfold mx; split <;> omega
theorem mx_comm (x y : Int) : mx x y = mx y x := by unfold mx; split <;> split <;> omega
theorem max_pos : ∀ (a b : List api_Term), Pos a → Pos b → Pos (mrg maxT a b)
  | [], b, _, hb => by simp only [mrg]; exact hb
  | s :: a, [], ha, _ => by simp only [mrg]; exact ha
  | s :: a, t :: b, ha, hb => by
    have hs := ha s List.mem_cons_self
    have ht := hb t List.mem_cons_self
    rw [mrg]
    split
    · intro x hx
      rcases List.mem_cons.1 hx with rfl | hx
      · exact hs
      · exact max_pos a (t :: b) ha.tail hb x hx
    · split
      · intro x hx
        rcases List.mem_cons.1 hx with rfl | hx
        · exact ht
        · exact max_pos (s :: a) b ha hb.tail x hx
      · intro x hx
        rcases List.mem_cons.1 hx with rfl | hx
        · exact mx_pos hs
        · exact max_pos a b ha.tail hb.tail x hx
termination_by a b => a.length + b.length
theorem mrg_nn {one : api_Term → api_Term → api_Term} (h1 : ∀ s t, key (one s t) = key s) {a b : List api_Term} (ha : NN a) (hb : NN b) : NN (mrg one a b) := fun x hx e he => by
  rcases mrg_keys h1 a b x hx with ⟨y, hy, e'⟩ | ⟨y, hy, e'⟩
  · rw [e'] at he; exact ha y hy e he
  · rw [e'] at he; exact hb y hy e he
theorem coef_max (k : List Int) : ∀ (a b : List api_Term), Srt a → Srt b → Pos a → Pos b → coef (mrg maxT a b) k = mx (coef a k) (coef b k)
  | [], b, _, _, _, pb => by
    have := coef_nonneg pb k
    simp only [mrg, mx]
    show coef b k = if (0 : Int) < coef b k then coef b k else 0
    split <;> omega
  | s :: a, [], _, _, pa, _ => by
    have := coef_nonneg pa k
    simp only [mrg, mx]
    show coef (s :: a) k = if coef (s :: a) k < 0 then 0 else coef (s :: a) k
    rw [if_neg (by omega)]
  | s :: a, t :: b, ha, hb, pa, pb => by
    have hlen : (key s).length = (key t).length := by rw [key_len, key_len]
    have ha1 := (List.pairwise_cons.1 ha).2
    have hb1 := (List.pairwise_cons.1 hb).2
    have hs := pa s List.mem_cons_self
    have ht := pb t List.mem_cons_self
    rw [mrg]
    split
    · rename_i c
      have c := (cmpL_lt hlen).1 c
      rw [coef_cons, coef_max k a (t :: b) ha1 hb pa.tail pb, coef_cons s a k]
      by_cases e : key s = k
      · subst e
        rw [coef_tail ha, coef_below hb c]; simp [mx]; omega
      · simp [e]
    · rename_i c0
      split
      · rename_i c
        have c := (cmpL_gt hlen).1 c
        rw [coef_cons, coef_max k (s :: a) b ha hb1 pa pb.tail, coef_cons t b k]
        by_cases e : key t = k
        · subst e
          rw [coef_tail hb, coef_below ha c]; simp [mx]; omega
        · simp [e]
      · rename_i c1
        have ek := cmpL_eq hlen c0 c1
        rw [coef_cons, coef_max k a b ha1 hb1 pa.tail pb.tail, coef_cons s a k, coef_cons t b k, ← ek]
        show (if key s = k then (maxT s t).Coef else 0) + _ = _
        by_cases e : key s = k
        · subst e
          have : coef b (key s) = 0 := by rw [ek]; exact coef_tail hb
          rw [coef_tail ha, this]; simp [mx, maxT]
        · simp [e]
termination_by a b => a.length + b.length

theorem max_le {g : List Int → Int} (hg : ∀ k, 0 ≤ g k) : ∀ (a b : List api_Term), Pos a → Pos b → dot g (mrg maxT a b) ≤ dot g a + dot g b ∧ dot g a ≤ dot g (mrg maxT a b) ∧ dot g b ≤ dot g (mrg maxT a b)
  | [], b, _, hb => by
    have := dot_nonneg hg hb
    simp only [mrg, dot]; omega
  | s :: a, [], ha, _ => by
    have := dot_nonneg hg ha
    simp only [mrg]; simp only [dot] at this ⊢; omega
  | s :: a, t :: b, ha, hb => by
    have hlen : (key s).length = (key t).length := by rw [key_len, key_len]
    have hs := ha s List.mem_cons_self
    have ht := hb t List.mem_cons_self
    have q1 := Int.mul_nonneg (show 0 ≤ s.Coef by omega) (hg (key s))
    have q2 := Int.mul_nonneg (show 0 ≤ t.Coef by omega) (hg (key t))
    rw [mrg]
    split
    · have := max_le hg a (t :: b) ha.tail hb
      simp only [dot] at this ⊢; omega
    · rename_i c0
      split
      · have := max_le hg (s :: a) b ha hb.tail
        simp only [dot] at this ⊢; omega
      · rename_i c1
        have ek := cmpL_eq hlen c0 c1
        have := max_le hg a b ha.tail hb.tail
        rw [← ek] at q2
        simp only [dot, maxT]
        rw [show key { s with Coef := if s.Coef < t.Coef then t.Coef else s.Coef } = key s from rfl, ← ek]
        split
        · rename_i hlt
          have := Int.mul_le_mul_of_nonneg_right (show s.Coef ≤ t.Coef by omega) (hg (key s))
          omega
        · rename_i hlt
          have := Int.mul_le_mul_of_nonneg_right (show t.Coef ≤ s.Coef by omega) (hg (key s))
          omega
termination_by a b => a.length + b.length

def MaxR (a b : List api_Term) : List api_Term × Int := if fitB (mrg maxT a b) = true then (mrg maxT a b, 0) else ([], 17)
theorem max_ok (F : Nat) (hF : 1000 ≤ F) {a b : List api_Term} (ha : fitB a = true) (hb : fitB b = true) : poly_Max F a b = some (MaxR a b) := by
  have la := ((fit_iff a).1 ha).1
  have lb := ((fit_iff b).1 hb).1
  unfold poly_Max
  rw [merged_ok F hF a b (fun y0 y1 => poly_greater F y0 y1) maxT (fun s hs t ht => rfl) (by omega)]
  simp only [Option.bind_some, checked_ok F (by omega : 100 ≤ F), MaxR]
theorem max_srt {a b : List api_Term} (ha : Srt a) (hb : Srt b) : Srt (mrg maxT a b) := mrg_srt (one := maxT) (fun _ _ => rfl) a b ha hb
theorem max_comm {a b : List api_Term} (ha : Good a) (hb : Good b) : MaxR a b = MaxR b a := by
  have : mrg maxT a b = mrg maxT b a := sum_ext (max_srt ha.srt hb.srt) (max_srt hb.srt ha.srt) (max_pos _ _ ha.pos hb.pos) (max_pos _ _ hb.pos ha.pos) (fun k => by
    rw [coef_max k a b ha.srt hb.srt ha.pos hb.pos, coef_max k b a hb.srt ha.srt hb.pos ha.pos, mx_comm])
  unfold MaxR; rw [this]
theorem max_self {a : List api_Term} (ha : Good a) : MaxR a a = (a, 0) := by
  have : mrg maxT a a = a := sum_ext (max_srt ha.srt ha.srt) ha.srt (max_pos _ _ ha.pos ha.pos) ha.pos (fun k => by
    rw [coef_max k a a ha.srt ha.srt ha.pos ha.pos]; simp [mx])
  unfold MaxR; rw [this, ha.fit]; rfl
theorem max_good {a b : List api_Term} (ha : Good a) (hb : Good b) : Good (MaxR a b).1 := by
  unfold MaxR; split
  · rename_i hf; exact ⟨hf, mrg_nn (one := maxT) (fun _ _ => rfl) ha.nn hb.nn⟩
  · exact good_nil
theorem max_zero {a b : List api_Term} (h : (MaxR a b).2 = 0) : (MaxR a b).1 = mrg maxT a b := by
  unfold MaxR at h ⊢
  split
  · rfl
  · rename_i c; rw [if_neg c] at h; cases h

theorem dot_mono {g h : List Int → Int} (hg : ∀ k, g k ≤ h k) : ∀ {p : List api_Term}, Pos p → dot g p ≤ dot h p
  | [], _ => by simp [dot]
  | t :: p, hp => by
    have h1 := hp t List.mem_cons_self
    have := Int.mul_le_mul_of_nonneg_left (hg (key t)) (show 0 ≤ t.Coef by omega)
    have := dot_mono hg hp.tail
    simp only [dot]; omega
theorem mon_mono {l m : List Int} (h : ∀ i, vv l i ≤ vv m i) : ∀ (es : List Int) (i : Nat), mon l i es ≤ mon m i es
  | [], i => by simp [mon]
  | e :: es, i => Int.mul_le_mul (pw_mono (vv_nonneg l i) (h i) _) (mon_mono h es (i + 1)) (mon_nonneg l es _) (pw_nonneg (vv_nonneg m i) _)
theorem vv_set (l : List Int) (j : Nat) (x : Int) (hx : l.getD j 0 ≤ x) (i : Nat) : vv l i ≤ vv (l.set j x) i := by
  unfold vv
  by_cases e : i = j
  · subst e
    by_cases c : i < l.length
    · rw [show (l.set i x).getD i 0 = x by simp [c]]
      split <;> split <;> omega
    · rw [List.set_eq_of_length_le (by omega)]; exact Int.le_refl _
  · rw [show (l.set j x).getD i 0 = l.getD i 0 by simp [List.getElem?_set_ne (fun h => e h.symm)]]; exact Int.le_refl _

def unitT (i : Nat) : api_Term := { Exps := (Arr.rep 12 0).set (i : Int) 1, Coef := 1 }
theorem key_unit (i : Nat) : key (unitT i) = (List.replicate 12 (0 : Int)).set i 1 := rfl
theorem unknown_ok (F : Nat) (i : Nat) (hi : i < 12) : poly_unknown F (i : Int) = some (unitT i) := by
  unfold poly_unknown
  rw [idx_nat]
  have : (api_Term.mk (Arr.rep 12 0) 1).Exps.1[i]? = some (0 : Int) := by
    show (List.replicate 12 (0 : Int))[i]? = some 0
    rw [List.getElem?_eq_getElem (by simpa using hi), List.getElem_replicate]
  rw [this]; rfl
def VarR (v : Int) : List api_Term × Int := if v < 0 ∨ 12 ≤ v then ([], 20) else ([unitT v.toNat], 0)
theorem var_ok (F : Nat) (v : Int) : poly_Var F v = some (VarR v) := by
  unfold poly_Var VarR
  by_cases c : v < 0 ∨ 12 ≤ v
  · rw [if_pos c]
    have : (decide (v < 0) || decide (12 ≤ v)) = true := by simpa using c
    rw [this]; rfl
  · rw [if_neg c]
    have : (decide (v < 0) || decide (12 ≤ v)) = false := by simpa using c
    rw [this]
    obtain ⟨i, rfl⟩ := Int.eq_ofNat_of_zero_le (show 0 ≤ v by omega)
    simp only [cond_false, unknown_ok F i (by omega), Option.bind_some, Int.toNat_natCast]
theorem rvar_ok (F : Nat) (v : Int) : R13_Var F v = some (VarR v) := by
  unfold R13_Var VarR
  by_cases c : v < 0 ∨ 12 ≤ v
  · rw [if_pos c]
    have : (decide (v < 0) || decide (12 ≤ v)) = true := by simpa using c
    rw [this]; rfl
  · rw [if_neg c]
    have : (decide (v < 0) || decide (12 ≤ v)) = false := by simpa using c
    rw [this]
    obtain ⟨i, rfl⟩ := Int.eq_ofNat_of_zero_le (show 0 ≤ v by omega)
    have : idx (api_Term.mk (Arr.rep 12 0) 1).Exps.1 (i : Int) = some (0 : Int) := by
      rw [idx_nat]
      show (List.replicate 12 (0 : Int))[i]? = some 0
      rw [List.getElem?_eq_getElem (by simp; omega), List.getElem_replicate]
    simp only [cond_false, this, Option.bind_some, Int.toNat_natCast]; rfl
def NumR (n : Int) : List api_Term × Int := if 1099511627776 < n then ([], 17) else if n < 1 then ([], 0) else ([⟨Arr.rep 12 0, n⟩], 0)
theorem num_ok (F : Nat) (n : Int) : poly_Num F n = some (NumR n) := by
  unfold poly_Num NumR
  by_cases c : 1099511627776 < n
  · simp [c]
  · by_cases d : n < 1
    · simp [c, d]
    · simp [c, d]
theorem rnum_ok (F : Nat) (n : Int) : R13_Num F n = some (NumR n) := num_ok F n

theorem unit_exps (i : Nat) : ∀ e ∈ key (unitT i), 0 ≤ e ∧ e ≤ 6 := by
  intro e he
  rw [key_unit] at he
  rcases List.mem_or_eq_of_mem_set he with h | h
  · rw [List.mem_replicate] at h; omega
  · omega
theorem good_unit (i : Nat) (c : Int) (h1 : 1 ≤ c) (h2 : c ≤ 1099511627776) : Good [{ unitT i with Coef := c }] := by
  refine ⟨(fit_iff _).2 ⟨by simp, fun t ht => ?_, List.pairwise_singleton _ _⟩, fun t ht e he => ?_⟩
  · rw [List.mem_singleton] at ht; subst ht
    exact (okT_iff _).2 ⟨h1, h2, fun e he => (unit_exps i e he).2⟩
  · rw [List.mem_singleton] at ht; subst ht
    exact (unit_exps i e he).1
theorem var_good (v : Int) : Good (VarR v).1 := by
  unfold VarR; split
  · exact good_nil
  · exact good_unit _ 1 (by omega) (by omega)
theorem num_good (n : Int) : Good (NumR n).1 := by
  unfold NumR; split
  · exact good_nil
  · split
    · exact good_nil
    · refine ⟨(fit_iff _).2 ⟨by simp, fun t ht => ?_, List.pairwise_singleton _ _⟩, fun t ht e he => ?_⟩
      · rw [List.mem_singleton] at ht; subst ht
        refine (okT_iff _).2 ⟨by show 1 ≤ n; omega, by show n ≤ _; omega, fun e he => ?_⟩
        have : e ∈ List.replicate 12 (0 : Int) := he
        rw [List.mem_replicate] at this; omega
      · rw [List.mem_singleton] at ht; subst ht
        have : e ∈ List.replicate 12 (0 : Int) := he
        rw [List.mem_replicate] at this; omega

def ex (t : api_Term) (i : Nat) : Int := (key t).getD i 0
theorem idx_key (t : api_Term) (i : Nat) (hi : i < 12) : idx t.Exps.1 (i : Int) = some (ex t i) := by
  rw [idx_nat]
  have : i < (key t).length := by rw [key_len]; exact hi
  simp [ex, List.getElem?_eq_getElem this]

/-- Which terms have the variable. -/
def hasR (p : List api_Term) (v : Int) : Bool := decide (0 ≤ v ∧ v < 12) && p.any fun t => decide (0 < ex t v.toNat)
theorem rhas_loop (F : Nat) (p : List api_Term) (hp : p.length ≤ 64) (v : Int) : ∀ (l pre : List api_Term) (n : Nat), p = pre ++ l → l.length < n → R13_Has_L0 F p v n (pre.length : Int) = some (hasR l v)
  | [], pre, n, h, hn => by
    cases n with
    | zero => omega
    | succ n => rw [R13_Has_L0, h]; simp [hasR]
  | t :: l, pre, n, h, hn => by
    cases n with
    | zero => omega
    | succ n =>
      have hlen : pre.length < p.length := by rw [h]; simp
      have hidx : idx p (pre.length : Int) = some t := by rw [h]; exact idx_mid _ _ _
      have ih := rhas_loop F p hp v l (pre ++ [t]) n (by simp [h]) (by simp at hn; omega)
      simp only [List.length_append, List.length_singleton] at ih
      rw [R13_Has_L0]
      have hlt : decide ((pre.length : Int) < (p.length : Int)) = true := by simp; omega
      rw [hlt]
      simp only [cond_true, joinM, hidx, Option.bind_some, wrapS _ (show pre.length < 9223372036854775807 by omega), ih]
      by_cases c : 0 ≤ v ∧ v < 12
      · obtain ⟨i, rfl⟩ := Int.eq_ofNat_of_zero_le c.1
        have hi : i < 12 := by omega
        have cb : (decide (0 ≤ (i : Int)) && decide ((i : Int) < 12)) = true := by simpa using c
        simp only [cb, cond_true, idx_key t i hi, Option.bind_some, hasR, Int.toNat_natCast, List.any_cons, decide_eq_true c, Bool.true_and]
        by_cases d : 0 < ex t i
        · simp [d]
        · simp [d]
      · have cb : (decide (0 ≤ v) && decide (v < 12)) = false := by
          rw [Bool.and_eq_false_iff]; simp only [decide_eq_false_iff_not]; omega
        simp [cb, hasR, c]
theorem rhas_ok (F : Nat) (hF : 100 ≤ F) (p : List api_Term) (hp : p.length ≤ 64) (v : Int) : R13_Has F p v = some (hasR p v) := by
  have := rhas_loop F p hp v p [] F rfl (by omega)
  simpa [R13_Has] using this
theorem index_term (F : Nat) (p : List api_Term) (hp : p.length ≤ 100) (φ : api_Term → Option Bool) (q : api_Term → Bool) (hφ : ∀ x, φ x = some (q x)) : ∀ (l pre : List api_Term) (n : Nat), p = pre ++ l → l.length < n →
    ∃ k, slices_IndexFunc_api_Poly_api_Term_L0 F p φ n (pre.length : Int) = some k ∧ (0 ≤ k ↔ l.any q = true)
  | [], pre, n, h, hn => by
    cases n with
    | zero => omega
    | succ n => exact ⟨-1, by rw [slices_IndexFunc_api_Poly_api_Term_L0, h]; simp, by simp⟩
  | t :: l, pre, n, h, hn => by
    cases n with
    | zero => omega
    | succ n =>
      have hlen : pre.length < p.length := by rw [h]; simp
      have hidx : idx p (pre.length : Int) = some t := by rw [h]; exact idx_mid _ _ _
      rw [slices_IndexFunc_api_Poly_api_Term_L0]
      have hlt : decide ((pre.length : Int) < (p.length : Int)) = true := by simp; omega
      rw [hlt]
      simp only [cond_true, hidx, Option.bind_some, hφ, List.any_cons]
      cases hq : q t with
      | true => exact ⟨pre.length, rfl, by simp⟩
      | false =>
        obtain ⟨k, e1, e2⟩ := index_term F p hp φ q hφ l (pre ++ [t]) n (by simp [h]) (by simp at hn; omega)
        simp only [List.length_append, List.length_singleton] at e1
        exact ⟨k, by simpa [wrapS _ (show pre.length < 9223372036854775807 by omega)] using e1, by simpa using e2⟩
theorem has_ok (F : Nat) (hF : 100 ≤ F) (p : List api_Term) (hp : p.length ≤ 64) (v : Int) : poly_Has F p v = some (hasR p v) := by
  unfold poly_Has
  by_cases c : 0 ≤ v ∧ v < 12
  · obtain ⟨i, rfl⟩ := Int.eq_ofNat_of_zero_le c.1
    have hi : i < 12 := by omega
    have cb : (decide ((i : Int) < 0) || decide (12 ≤ (i : Int))) = false := by simp; omega
    obtain ⟨k, e1, e2⟩ := index_term F p (by omega) (fun y0 => poly_Has_1 F y0 (i : Int)) (fun t => decide (0 < ex t i)) (fun t => by unfold poly_Has_1; rw [idx_key t i hi]; rfl) p [] F rfl (by omega)
    simp only [List.length_nil] at e1
    rw [show ((0 : Nat) : Int) = 0 from rfl] at e1
    simp only [cb, cond_false, slices_ContainsFunc_api_Poly_api_Term, slices_IndexFunc_api_Poly_api_Term, e1, Option.bind_some, hasR, decide_eq_true c, Bool.true_and, Int.toNat_natCast]
    congr 1
    cases ha : p.any (fun t => decide (0 < ex t i)) with
    | true => rw [ha] at e2; simpa using e2
    | false => rw [ha] at e2; simpa using e2
  · have cb : (decide (v < 0) || decide (12 ≤ v)) = true := by rw [Bool.or_eq_true]; simp only [decide_eq_true_eq]; omega
    simp [cb, hasR, c]

/-- A sum as a times the variable and the rest. -/
def splL (u : List Int) (i : Nat) : Int → List api_Term → List api_Term → Int × List api_Term × Bool
  | k, out, [] => (k, out, true)
  | k, out, t :: l => if key t = u then splL u i t.Coef out l else if 0 < ex t i then (0, [], false) else splL u i k (out ++ [t]) l
def SplitR (p : List api_Term) (v : Int) : Int × List api_Term × Bool := if v < 0 ∨ 12 ≤ v then (0, p, true) else splL (key (unitT v.toNat)) v.toNat 0 [] p
theorem split_loop (F : Nat) (p : List api_Term) (hp : p.length ≤ 64) (i : Nat) (hi : i < 12) : ∀ (l pre out : List api_Term) (k : Int) (n : Nat), p = pre ++ l → l.length < n → out.length ≤ pre.length →
    poly_Split_L0 F p (i : Int) (unitT i) (fun v6 v8 => some (v6, v8, true)) n k out (pre.length : Int) = some (splL (key (unitT i)) i k out l)
  | [], pre, out, k, n, h, hn, ho => by
    cases n with
    | zero => omega
    | succ n => rw [poly_Split_L0, h]; simp [splL]
  | t :: l, pre, out, k, n, h, hn, ho => by
    cases n with
    | zero => omega
    | succ n =>
      have hlen : pre.length < p.length := by rw [h]; simp
      have hidx : idx p (pre.length : Int) = some t := by rw [h]; exact idx_mid _ _ _
      have ih := fun out k ho => split_loop F p hp i hi l (pre ++ [t]) out k n (by simp [h]) (by simp at hn; omega) ho
      simp only [List.length_append, List.length_singleton] at ih
      rw [poly_Split_L0]
      have hlt : decide ((pre.length : Int) < (p.length : Int)) = true := by simp; omega
      rw [hlt]
      simp only [cond_true, hidx, Option.bind_some, wrapS _ (show pre.length < 9223372036854775807 by omega), splL, idx_key t i hi]
      by_cases c : key t = key (unitT i)
      · have cb : (t.Exps.1 == (unitT i).Exps.1) = true := by simpa using c
        rw [if_pos c, cb]
        exact ih out t.Coef (by omega)
      · have cb : (t.Exps.1 == (unitT i).Exps.1) = false := by simpa using c
        rw [if_neg c, cb]
        simp only [cond_false]
        by_cases d : 0 < ex t i
        · simp [d]
        · rw [if_neg d]
          simp only [d, decide_false, cond_false]
          rw [app_ok (by simp [roomMax]; omega) (by omega)]
          exact ih (out ++ [t]) k (by simp; omega)
theorem split_ok (F : Nat) (hF : 100 ≤ F) (p : List api_Term) (hp : p.length ≤ 64) (v : Int) : poly_Split F p v = some (SplitR p v) := by
  unfold poly_Split SplitR
  by_cases c : v < 0 ∨ 12 ≤ v
  · rw [if_pos c]
    have : (decide (v < 0) || decide (12 ≤ v)) = true := by simpa using c
    rw [this]
    simp only [cond_true, slices_Clone_api_Poly_api_Term]
    rw [app_ok (by simp [roomMax]; omega) (by omega)]; rfl
  · rw [if_neg c]
    have : (decide (v < 0) || decide (12 ≤ v)) = false := by simpa using c
    rw [this]
    obtain ⟨i, rfl⟩ := Int.eq_ofNat_of_zero_le (show 0 ≤ v by omega)
    simp only [cond_false, unknown_ok F i (by omega), Option.bind_some, Int.toNat_natCast, joinM]
    exact split_loop F p hp i (by omega) p [] [] 0 F rfl (by omega) (by simp)

theorem sub_one (p pre : List api_Term) (t : api_Term) (l : List api_Term) (h : p = pre ++ t :: l) (hp : p.length ≤ 64) : subM p (pre.length : Int) ((pre.length + 1 : Nat) : Int) = some [t] := by
  have : pre.length < p.length := by rw [h]; simp
  unfold subM
  rw [if_pos ⟨by omega, by omega, by omega⟩]
  simp only [Int.toNat_natCast, h]
  simp
theorem rsplit_in (F : Nat) (hF : 100 ≤ F) (p : List api_Term) (hp : p.length ≤ 64) (i : Nat) (hi : i < 12) (x : Int) : ∀ (l pre out : List api_Term) (k : Int) (n : Nat), p = pre ++ l → l.length < n → out.length ≤ pre.length →
    R13_Split_L0 F p (i : Int) ([unitT i], x) (fun v4 v5 => some (v5, v4, true)) n out k (pre.length : Int) = some (splL (key (unitT i)) i k out l)
  | [], pre, out, k, n, h, hn, ho => by
    cases n with
    | zero => omega
    | succ n => rw [R13_Split_L0, h]; simp [splL]
  | t :: l, pre, out, k, n, h, hn, ho => by
    cases n with
    | zero => omega
    | succ n =>
      have hlen : pre.length < p.length := by rw [h]; simp
      have hidx : idx p (pre.length : Int) = some t := by rw [h]; exact idx_mid _ _ _
      have ih := fun out k ho => rsplit_in F hF p hp i hi x l (pre ++ [t]) out k n (by simp [h]) (by simp at hn; omega) ho
      simp only [List.length_append, List.length_singleton] at ih
      rw [R13_Split_L0]
      have hlt : decide ((pre.length : Int) < (p.length : Int)) = true := by simp; omega
      rw [hlt]
      simp only [cond_true, joinM, hidx, Option.bind_some, sub_one p pre t l h hp, rhas_ok F hF [t] (by simp), wrapS _ (show pre.length < 9223372036854775807 by omega), splL, idx_zero]
      have one : (([unitT i] : List api_Term).length : Int) == 1 := rfl
      simp only [one, cond_true]
      by_cases c : key t = key (unitT i)
      · have cb : (t.Exps.1 == (unitT i).Exps.1) = true := by simpa using c
        rw [if_pos c, cb]
        exact ih out t.Coef (by omega)
      · have cb : (t.Exps.1 == (unitT i).Exps.1) = false := by simpa using c
        rw [if_neg c, cb]
        have hr : hasR [t] (i : Int) = decide (0 < ex t i) := by
          have : 0 ≤ (i : Int) ∧ (i : Int) < 12 := by omega
          simp only [hasR, decide_eq_true this, Bool.true_and, Int.toNat_natCast, List.any_cons, List.any_nil, Bool.or_false]
        simp only [cond_false, hr]
        by_cases d : 0 < ex t i
        · simp [d]
        · rw [if_neg d]
          simp only [d, decide_false, cond_false]
          rw [app_ok (by simp [roomMax]; omega) (by omega)]
          exact ih (out ++ [t]) k (by simp; omega)
theorem rsplit_out (F : Nat) (hF : 100 ≤ F) (p : List api_Term) (hp : p.length ≤ 64) (v x : Int) (hv : v < 0 ∨ 12 ≤ v) : ∀ (l pre : List api_Term) (n : Nat), p = pre ++ l → l.length < n →
    R13_Split_L0 F p v ([], x) (fun v4 v5 => some (v5, v4, true)) n pre 0 (pre.length : Int) = some (0, p, true)
  | [], pre, n, h, hn => by
    cases n with
    | zero => omega
    | succ n => rw [R13_Split_L0, h]; simp
  | t :: l, pre, n, h, hn => by
    cases n with
    | zero => omega
    | succ n =>
      have hlen : pre.length < p.length := by rw [h]; simp
      have hidx : idx p (pre.length : Int) = some t := by rw [h]; exact idx_mid _ _ _
      have ih := rsplit_out F hF p hp v x hv l (pre ++ [t]) n (by simp [h]) (by simp at hn; omega)
      simp only [List.length_append, List.length_singleton] at ih
      rw [R13_Split_L0]
      have hlt : decide ((pre.length : Int) < (p.length : Int)) = true := by simp; omega
      rw [hlt]
      have hr : hasR [t] v = false := by
        have : ¬ (0 ≤ v ∧ v < 12) := by omega
        simp [hasR, this]
      have one : ((([] : List api_Term).length : Int) == 1) = false := rfl
      simp only [cond_true, joinM, hidx, Option.bind_some, sub_one p pre t l h hp, rhas_ok F hF [t] (by simp), wrapS _ (show pre.length < 9223372036854775807 by omega), one, cond_false, hr]
      rw [app_ok (by simp [roomMax]; omega) (by omega)]
      exact ih
theorem rsplit_ok (F : Nat) (hF : 100 ≤ F) (p : List api_Term) (hp : p.length ≤ 64) (v : Int) : R13_Split F p v = some (SplitR p v) := by
  unfold R13_Split
  simp only [rvar_ok, Option.bind_some, joinM]
  unfold VarR SplitR
  by_cases c : v < 0 ∨ 12 ≤ v
  · rw [if_pos c, if_pos c]
    exact rsplit_out F hF p hp v 20 c p [] F rfl (by omega)
  · rw [if_neg c, if_neg c]
    obtain ⟨i, rfl⟩ := Int.eq_ofNat_of_zero_le (show 0 ≤ v by omega)
    simp only [Int.toNat_natCast]
    exact rsplit_in F hF p hp i (by omega) 0 p [] [] 0 F rfl (by omega) (by simp)
end Go.Proofs.Ytfbkgjmpadknfaa.M
