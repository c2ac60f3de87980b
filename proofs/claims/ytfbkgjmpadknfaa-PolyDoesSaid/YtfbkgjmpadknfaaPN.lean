/-
  Sums of terms: the document's products and putting.
-/
import Derived.Test.YtfbkgjmpadknfaaPL
namespace Go.Proofs.Ytfbkgjmpadknfaa.M
open Go.Proofs.YtfbkgjmpadknfaaW.Ah Go.Proofs.Ytfbkgjmpadknfaa
set_option linter.unusedVariables false
set_option linter.unusedSimpArgs false

theorem mulT_comm (s t : api_Term) : mulT s t = mulT t s := term_ext (pls_comm _ _) (Int.mul_comm _ _)
theorem rmul_exps (F : Nat) (a b : List api_Term) (i j : Nat) (s t : api_Term) (hi : idx a (i : Int) = some s) (hj : idx b (j : Int) = some t) (K : api_Term → Option (List api_Term × Int)) : ∀ (us bs pa pb zs pz : List Int) (n : Nat) (w : api_Term), key s = pa ++ us → key t = pb ++ bs → key w = pz ++ zs → pa.length = pb.length → pz.length = pa.length → us.length < n →
    (∀ e ∈ us, 0 ≤ e ∧ e ≤ 6) → (∀ e ∈ bs, 0 ≤ e ∧ e ≤ 6) → ∃ w', R13_Mul_L2 F a b (i : Int) (j : Int) K n (pa.length : Int) w = K w' ∧ key w' = pz ++ List.zipWith (· + ·) us bs ∧ w'.Coef = w.Coef
  | [], bs, pa, pb, zs, pz, n, w, hs, ht, hw, hl, hz, hn, _, _ => by
    cases n with
    | zero => omega
    | succ n =>
      have h1 := key_len s; rw [hs] at h1; simp at h1
      have h2 := key_len w; rw [hw] at h2; simp at h2
      have : zs = [] := List.length_eq_zero_iff.1 (by omega)
      subst this
      refine ⟨w, ?_, by simpa using hw, rfl⟩
      rw [R13_Mul_L2]
      simp [h1]
  | x :: us, bs, pa, pb, zs, pz, n, w, hs, ht, hw, hl, hz, hn, hu, hb => by
    cases n with
    | zero => omega
    | succ n =>
      have h1 := key_len s; rw [hs] at h1; simp at h1
      have h2 := key_len t; rw [ht] at h2; simp at h2
      have h3 := key_len w; rw [hw] at h3; simp at h3
      cases bs with
      | nil => simp at h2; omega
      | cons y bs =>
        cases zs with
        | nil => simp at h3; omega
        | cons z zs =>
          obtain ⟨u1, u2⟩ := hu x List.mem_cons_self
          obtain ⟨v1, v2⟩ := hb y List.mem_cons_self
          rw [R13_Mul_L2]
          have hlt : decide ((pa.length : Int) < 12) = true := by simp; omega
          have i1 : idx s.Exps.1 (pa.length : Int) = some x := by rw [show s.Exps.1 = pa ++ x :: us from hs, idx_mid]
          have i2 : idx t.Exps.1 (pa.length : Int) = some y := by rw [show t.Exps.1 = pb ++ y :: bs from ht, hl, idx_mid]
          have i3 : idx w.Exps.1 (pa.length : Int) = some z := by rw [show w.Exps.1 = pz ++ z :: zs from hw, ← hz, idx_mid]
          simp only [hlt, cond_true, hi, hj, i1, i2, i3, Option.bind_some, wrapS _ (show pa.length < 9223372036854775807 by omega), wrap_u8 (show 0 ≤ x + y by omega) (by omega)]
          obtain ⟨w', e1, e2, e3⟩ := rmul_exps F a b i j s t hi hj K us bs (pa ++ [x]) (pb ++ [y]) zs (pz ++ [x + y]) n { w with Exps := w.Exps.set (pa.length : Int) (x + y) } (by simp [hs]) (by simp [ht]) (by
            show w.Exps.1.set _ _ = _
            rw [show w.Exps.1 = pz ++ z :: zs from hw, Int.toNat_natCast, ← hz, set_mid]; simp) (by simp [hl]) (by simp [hz]) (by simp at hn; omega)
            (fun e he => hu e (List.mem_cons_of_mem _ he)) (fun e he => hb e (List.mem_cons_of_mem _ he))
          refine ⟨w', ?_, by rw [e2]; simp, e3⟩
          rw [← e1]; simp

theorem rmul_in (F : Nat) (hF : 1000 ≤ F) {a b : List api_Term} (ha : Good a) (hb : Good b) (i : Nat) (s : api_Term) (hs : s ∈ a) (hi : idx a (i : Int) = some s) (X : List api_Term) (hX : Pos X) (K : List api_Term → Option (List api_Term × Int)) : ∀ (l pre : List api_Term) (n : Nat), b = pre ++ l → l.length < n → fitB (norm (X ++ pre.map (mulT · s))) = true →
    R13_Mul_L1 F a b (i : Int) K n (norm (X ++ pre.map (mulT · s))) (pre.length : Int) = if fitB (norm (X ++ b.map (mulT · s))) = true then K (norm (X ++ b.map (mulT · s))) else some ([], 17)
  | [], pre, n, h, hn, hf => by
    cases n with
    | zero => omega
    | succ n =>
      rw [List.append_nil] at h
      subst h
      rw [if_pos hf, R13_Mul_L1]; simp
  | t :: l, pre, n, h, hn, hf => by
    cases n with
    | zero => omega
    | succ n =>
      have hlb := hb.len
      have hlen : pre.length < b.length := by rw [h]; simp
      have hidx : idx b (pre.length : Int) = some t := by rw [h]; exact idx_mid _ _ _
      have htm : t ∈ b := by rw [h]; simp
      have tc := hb.coef htm
      have sc := ha.coef hs
      have pp : Pos pre := fun x hx => hb.pos x (by rw [h]; exact List.mem_append_left _ hx)
      have pl : Pos l := fun x hx => hb.pos x (by rw [h]; exact List.mem_append_right _ (List.mem_cons_of_mem _ hx))
      have q1 := map_pos pp sc.1
      have q2 := map_pos hb.pos sc.1
      have q3 := map_pos pl sc.1
      have q4 : Pos [mulT t s] := Pos.one (by
        have := mul_one_le tc.1 sc.1; exact this)
      have qb := hX.append q2
      have eb : b.map (mulT · s) = pre.map (mulT · s) ++ ([mulT t s] ++ l.map (mulT · s)) := by rw [h]; simp
      have ep : (pre ++ [t]).map (mulT · s) = pre.map (mulT · s) ++ [mulT t s] := by simp
      rw [R13_Mul_L1]
      have hlt : decide ((pre.length : Int) < (b.length : Int)) = true := by simp; omega
      rw [hlt]
      simp only [cond_true, hidx, hi, Option.bind_some, quo_ok tc.1, quo_lt tc.1, joinM]
      by_cases c : 1099511627776 < s.Coef * t.Coef
      · have hno : ¬ fitB (norm (X ++ b.map (mulT · s))) = true := by
          intro hfa
          have := fit_sub (l := [mulT t s]) (r := X ++ pre.map (mulT · s) ++ l.map (mulT · s)) q4 qb ((hX.append q1).append q3) (fun k => by
            rw [eb]; simp only [coef, dot_append]; omega) hfa
          rw [norm_one] at this
          have := ((okT_iff _).1 (((fit_iff _).1 this).2.1 (mulT t s) (by simp))).2.1
          have e : (mulT t s).Coef = t.Coef * s.Coef := rfl
          rw [e, Int.mul_comm] at this; omega
        rw [if_neg hno]
        simp [c]
      · have hpos : 0 ≤ s.Coef * t.Coef := Int.mul_nonneg (by omega) (by omega)
        simp only [c, decide_false, cond_false, wrap_ok (show -9223372036854775808 ≤ s.Coef * t.Coef by omega) (by omega)]
        obtain ⟨w', e1, e2, e3⟩ := rmul_exps F a b i pre.length s t hi hidx (fun v19 => (R13_put F (norm (X ++ pre.map (mulT · s))) v19 true).bind fun x30 => (R13_Fit F x30).bind fun x31 => bif (!x31) then (some (([] : (List api_Term)), 17)) else (R13_Mul_L1 F a b (i : Int) K n x30 (IntKind.i64.wrap ((pre.length : Int) + 1))))
          (key s) (key t) [] [] (List.replicate 12 0) [] F { (api_Term.mk (Arr.rep 12 0) 0) with Coef := s.Coef * t.Coef } rfl rfl rfl rfl rfl (by rw [key_len]; omega) (ha.exps hs) (hb.exps htm)
        have ew : w' = mulT t s := by
          rw [mulT_comm]
          exact term_ext (by rw [e2]; simp [mulT]) (by rw [e3]; rfl)
        simp only [List.length_nil, Int.natCast_zero] at e1
        rw [e1, ew]
        have hput := rput_ok F hF (p := norm (X ++ pre.map (mulT · s))) (by have := ((fit_iff _).1 hf).1; omega) (mulT t s) true (by
          have e : (mulT t s).Coef = t.Coef * s.Coef := rfl
          rw [e, Int.mul_comm]; omega) (fun x hx => by
          obtain ⟨o1, o2, _⟩ := (okT_iff x).1 (((fit_iff _).1 hf).2.1 x hx); omega) (norm_srt _)
        have e : mrg (oneOf true) (norm (X ++ pre.map (mulT · s))) [mulT t s] = norm (X ++ (pre ++ [t]).map (mulT · s)) := by
          rw [ep, ← List.append_assoc, norm_append (hX.append q1) q4, norm_one]; rfl
        rw [e] at hput
        simp only [hput, Option.bind_some, rfit_ok F (by omega : 100 ≤ F)]
        cases hfn : fitB (norm (X ++ (pre ++ [t]).map (mulT · s))) with
        | true =>
          have ih := rmul_in F hF ha hb i s hs hi X hX K l (pre ++ [t]) n (by simp [h]) (by simp at hn; omega) hfn
          simp only [Bool.not_true, cond_false, wrapS _ (show pre.length < 9223372036854775807 by omega)]
          simp only [List.length_append, List.length_singleton] at ih
          exact ih
        | false =>
          have hno : ¬ fitB (norm (X ++ b.map (mulT · s))) = true := by
            intro hfa
            have := fit_sub (l := X ++ (pre ++ [t]).map (mulT · s)) (r := l.map (mulT · s)) (by rw [ep]; exact hX.append (q1.append q4)) qb q3 (fun k => by
              rw [eb, ep]; simp only [coef, dot_append]; omega) hfa
            rw [hfn] at this; cases this
          rw [if_neg hno]; rfl
theorem rmul_loop (F : Nat) (hF : 1000 ≤ F) {a b : List api_Term} (ha : Good a) (hb : Good b) : ∀ (l pre : List api_Term) (n : Nat), a = pre ++ l → l.length < n → fitB (norm (prodL pre b)) = true →
    R13_Mul_L0 F a b n (norm (prodL pre b)) (pre.length : Int) = some (Res (prodL a b))
  | [], pre, n, h, hn, hf => by
    cases n with
    | zero => omega
    | succ n =>
      rw [R13_Mul_L0]
      simp only [List.append_nil] at h
      subst h
      simp [res_yes hf]
  | t :: l, pre, n, h, hn, hf => by
    cases n with
    | zero => omega
    | succ n =>
      have hla := ha.len
      have hlen : pre.length < a.length := by rw [h]; simp
      have hidx : idx a (pre.length : Int) = some t := by rw [h]; exact idx_mid _ _ _
      have htm : t ∈ a := by rw [h]; simp
      have pp : Pos pre := fun x hx => ha.pos x (by rw [h]; exact List.mem_append_left _ hx)
      have pl : Pos l := fun x hx => ha.pos x (by rw [h]; exact List.mem_append_right _ (List.mem_cons_of_mem _ hx))
      have t1 := (ha.coef htm).1
      have hm := map_pos hb.pos t1
      have hP := prod_pos ha.pos hb.pos
      have eP : prodL a b = prodL pre b ++ (b.map (mulT · t) ++ prodL l b) := by rw [h, prodL_append, prodL_cons]
      have eP2 : prodL (pre ++ [t]) b = prodL pre b ++ b.map (mulT · t) := by rw [prodL_append, prodL_cons]; simp [prodL]
      rw [R13_Mul_L0]
      have hlt : decide ((pre.length : Int) < (a.length : Int)) = true := by simp; omega
      rw [hlt]
      simp only [cond_true, joinM]
      have hin := rmul_in F hF ha hb pre.length t htm hidx (prodL pre b) (prod_pos pp hb.pos) (fun v6 => R13_Mul_L0 F a b n v6 (IntKind.i64.wrap ((pre.length : Int) + 1))) b [] F rfl (by have := hb.len; omega) (by simpa using hf)
      simp only [List.map_nil, List.append_nil, List.length_nil, Int.natCast_zero] at hin
      rw [hin, ← eP2]
      cases hfr : fitB (norm (prodL (pre ++ [t]) b)) with
      | true =>
        rw [if_pos rfl, wrapS _ (show pre.length < 9223372036854775807 by omega)]
        have ih := rmul_loop F hF ha hb l (pre ++ [t]) n (by simp [h]) (by simp at hn; omega) hfr
        simpa using ih
      | false =>
        have : fitB (norm (prodL a b)) = false := by
          cases hfa : fitB (norm (prodL a b)) with
          | false => rfl
          | true =>
            have := fit_sub (l := prodL (pre ++ [t]) b) (r := prodL l b) (by rw [eP2]; exact (prod_pos pp hb.pos).append hm) hP (prod_pos pl hb.pos) (fun k => by
              rw [eP, eP2]; simp only [coef, dot_append]; omega) hfa
            rw [hfr] at this; cases this
        rw [res_no this]; rfl
theorem rmul_ok (F : Nat) (hF : 1000 ≤ F) {a b : List api_Term} (ha : Good a) (hb : Good b) : R13_Mul F a b = some (Res (prodL a b)) := by
  have := rmul_loop F hF ha hb a [] F rfl (by have := ha.len; omega) rfl
  simpa [R13_Mul, prodL, norm] using this

/-! Putting. -/
theorem rput_pow (F : Nat) (hF : 1000 ≤ F) {p : List api_Term} {i j : Nat} {s : api_Term} (hi : idx p (i : Int) = some s) (hj : j < 12) (he : ex s j ≤ 6) {q : List api_Term} (hq : Good q) (K : List api_Term → Int → Option (List api_Term × Int)) : ∀ (r c n : Nat) (acc : List api_Term), Good acc → (c : Int) + r = ex s j → r < n →
    R13_Put_L2 F p (i : Int) (j : Int) q K n acc 0 (c : Int) = K (powR q r acc).1 (powR q r acc).2
  | 0, c, n, acc, ha, hc, hn => by
    cases n with
    | zero => omega
    | succ n =>
      rw [R13_Put_L2]
      have : ¬ (c : Int) < ex s j := by omega
      simp [hi, idx_key s j hj, wrap_ok (show -9223372036854775808 ≤ ex s j by omega) (by omega), this, powR]
  | r + 1, c, n, acc, ha, hc, hn => by
    cases n with
    | zero => omega
    | succ n =>
      rw [R13_Put_L2]
      have : (c : Int) < ex s j := by omega
      simp only [hi, idx_key s j hj, Option.bind_some, wrap_ok (show -9223372036854775808 ≤ ex s j by omega) (by omega), this, decide_true, beq_self_eq_true, Bool.and_self, cond_true, rmul_ok F hF ha hq, wrapS c (by omega)]
      by_cases g : (Res (prodL acc q)).2 = 0
      · have ih := rput_pow F hF hi hj he hq K r (c + 1) n (Res (prodL acc q)).1 (mul_good ha hq) (by omega) (by omega)
        rw [show powR q (r + 1) acc = powR q r (Res (prodL acc q)).1 by rw [powR, if_pos g], g]
        exact ih
      · rw [show powR q (r + 1) acc = ([], 17) by rw [powR, if_neg g], res_other g]
        cases n with
        | zero => omega
        | succ n =>
          rw [R13_Put_L2]
          have : ((17 : Int) == 0) = false := rfl
          simp only [hi, idx_key s j hj, Option.bind_some, this, Bool.and_false, cond_false]
theorem rput_stuck (F : Nat) (hF : 1000 ≤ F) {p : List api_Term} {i : Nat} {s : api_Term} (hi : idx p (i : Int) = some s) (qs : List (List api_Term)) (K : List api_Term → Int → Option (List api_Term × Int)) : ∀ (r j n : Nat), j + r = 12 → r < n →
    R13_Put_L1 F p qs (i : Int) K n [] 17 (j : Int) = K [] 17
  | 0, j, n, h, hn => by
    cases n with
    | zero => omega
    | succ n =>
      rw [R13_Put_L1]
      have : ¬ (j : Int) < 12 := by omega
      simp [this]
  | r + 1, j, n, h, hn => by
    cases n with
    | zero => omega
    | succ n =>
      rw [R13_Put_L1]
      have : (j : Int) < 12 := by omega
      have ih := rput_stuck F hF hi qs K r (j + 1) n (by omega) (by omega)
      have z : ((17 : Int) == 0) = false := rfl
      have stuck : ∀ (q : List api_Term) (K' : List api_Term → Int → Option (List api_Term × Int)), R13_Put_L2 F p (i : Int) (j : Int) q K' F [] 17 0 = K' [] 17 := by
        intro q K'
        obtain ⟨f, rfl⟩ : ∃ f, F = f + 1 := ⟨F - 1, by omega⟩
        rw [R13_Put_L2]
        simp only [hi, idx_key s j (by omega), Option.bind_some, z, Bool.and_false, cond_false]
      simp only [this, decide_true, cond_true, rvar_ok, Option.bind_some, joinM, stuck, wrapS j (by omega), ih]
      refine cond_both (fun c => ?_) (fun _ => rfl)
      have c : j < qs.length := by simp at c; omega
      rw [idx_nat, List.getElem?_eq_getElem c]; rfl
theorem rput_vars (F : Nat) (hF : 1000 ≤ F) {p : List api_Term} {i : Nat} {s : api_Term} (hi : idx p (i : Int) = some s) {qs : List (List api_Term)} (hq : QG qs) (K : List api_Term → Int → Option (List api_Term × Int)) : ∀ (es pe : List Int) (n : Nat) (acc : List api_Term), Good acc → key s = pe ++ es → es.length < n → (∀ e ∈ es, 0 ≤ e ∧ e ≤ 6) →
    R13_Put_L1 F p qs (i : Int) K n acc 0 (pe.length : Int) = K (varsR qs pe.length es acc).1 (varsR qs pe.length es acc).2
  | [], pe, n, acc, ha, h, hn, _ => by
    cases n with
    | zero => omega
    | succ n =>
      have h2 := key_len s; rw [h] at h2; simp at h2
      rw [R13_Put_L1]
      simp [h2, varsR]
  | e :: es, pe, n, acc, ha, h, hn, hu => by
    cases n with
    | zero => omega
    | succ n =>
      have h2 := key_len s; rw [h] at h2; simp at h2
      obtain ⟨e1, e2⟩ := hu e List.mem_cons_self
      have hex : ex s pe.length = e := by unfold ex; rw [h]; simp
      rw [R13_Put_L1]
      have hlt : decide ((pe.length : Int) < 12) = true := by simp; omega
      rw [hlt]
      have step : R13_Put_L2 F p (i : Int) (pe.length : Int) (qv qs pe.length) (fun v21 v22 => R13_Put_L1 F p qs (i : Int) K n v21 v22 (IntKind.i64.wrap ((pe.length : Int) + 1))) F acc 0 0 = K (varsR qs pe.length (e :: es) acc).1 (varsR qs pe.length (e :: es) acc).2 := by
        refine (rput_pow F hF hi (by omega) (by omega) (qv_good hq pe.length) _ e.toNat 0 F acc ha (by omega) (by omega)).trans ?_
        rw [wrapS _ (show pe.length < 9223372036854775807 by omega)]
        by_cases g : (powR (qv qs pe.length) e.toNat acc).2 = 0
        · rw [g, show varsR qs pe.length (e :: es) acc = varsR qs (pe.length + 1) es (powR (qv qs pe.length) e.toNat acc).1 by rw [varsR, if_pos g]]
          have ih := rput_vars F hF hi hq K es (pe ++ [e]) n (powR (qv qs pe.length) e.toNat acc).1 (pow_good (qv_good hq _) _ ha) (by simp [h]) (by simp at hn; omega) (fun x hx => hu x (List.mem_cons_of_mem _ hx))
          simp only [List.length_append, List.length_singleton] at ih
          exact ih
        · rw [show varsR qs pe.length (e :: es) acc = ([], 17) by rw [varsR, if_neg g]]
          have hpow : ∀ (m : Nat) (x : List api_Term), ¬ (powR (qv qs pe.length) m x).2 = 0 → powR (qv qs pe.length) m x = ([], 17) := by
            intro m
            induction m with
            | zero => intro x h; exact absurd rfl h
            | succ m ih =>
              intro x h
              rw [powR] at h ⊢
              split
              · rename_i c; rw [if_pos c] at h; exact ih _ h
              · rfl
          rw [hpow _ _ g]
          exact rput_stuck F hF hi qs K es.length (pe.length + 1) n (by omega) (by simp at hn; omega)
      simp only [cond_true, Option.bind_some, rvar_ok, joinM]
      refine cond_both (fun c => ?_) (fun c => ?_)
      · have c : pe.length < qs.length := by simp at c; omega
        rw [idx_nat, List.getElem?_eq_getElem c]
        rw [show qs[pe.length] = qv qs pe.length by unfold qv; simp [c]]
        exact step
      · have c : ¬ pe.length < qs.length := by simp at c; omega
        have hv : (VarR (pe.length : Int)).1 = qv qs pe.length := by
          unfold VarR qv; rw [if_neg (by omega)]; simp [List.getElem?_eq_none (show qs.length ≤ pe.length by omega)]
        rw [hv]
        exact step
theorem vars_other (qs : List (List api_Term)) : ∀ (es : List Int) (i : Nat) (p : List api_Term), ¬ (varsR qs i es p).2 = 0 → varsR qs i es p = ([], 17)
  | [], i, p, h => absurd rfl h
  | e :: es, i, p, h => by
    rw [varsR] at h ⊢
    split
    · rename_i c; rw [if_pos c] at h; exact vars_other qs es (i + 1) _ h
    · rfl
theorem rput_loop (F : Nat) (hF : 1000 ≤ F) {p : List api_Term} (hp : Good p) {qs : List (List api_Term)} (hq : QG qs) : ∀ (l pre : List api_Term) (n : Nat) (acc : List api_Term), Good acc → p = pre ++ l → l.length < n →
    R13_Put_L0 F p qs n acc (pre.length : Int) = some (putR qs l acc)
  | [], pre, n, acc, ha, h, hn => by
    cases n with
    | zero => omega
    | succ n => rw [R13_Put_L0, h]; simp [putR]
  | t :: l, pre, n, acc, ha, h, hn => by
    cases n with
    | zero => omega
    | succ n =>
      have hla := hp.len
      have hlen : pre.length < p.length := by rw [h]; simp
      have hidx : idx p (pre.length : Int) = some t := by rw [h]; exact idx_mid _ _ _
      have htm : t ∈ p := by rw [h]; simp
      have tc := hp.coef htm
      have hg := vars_good hq (key t) 0 (num_good t.Coef)
      have hnum : (NumR t.Coef).2 = 0 := by unfold NumR; rw [if_neg (by omega), if_neg (by omega)]
      have ih := fun acc ha => rput_loop F hF hp hq l (pre ++ [t]) n acc ha (by simp [h]) (by simp at hn; omega)
      simp only [List.length_append, List.length_singleton] at ih
      rw [R13_Put_L0]
      have hlt : decide ((pre.length : Int) < (p.length : Int)) = true := by simp; omega
      rw [hlt]
      simp only [cond_true, hidx, Option.bind_some, rnum_ok, joinM, hnum]
      refine (rput_vars F hF hidx hq _ (key t) [] F (NumR t.Coef).1 (num_good _) rfl (by rw [key_len]; omega) (hp.exps htm)).trans ?_
      simp only [List.length_nil]
      by_cases g : (varsR qs 0 (key t) (NumR t.Coef).1).2 = 0
      · simp only [g, beq_self_eq_true, cond_true, radd_ok F hF ha hg, Option.bind_some, wrapS _ (show pre.length < 9223372036854775807 by omega)]
        by_cases d : (Res (acc ++ (varsR qs 0 (key t) (NumR t.Coef).1).1)).2 = 0
        · have db : ((Res (acc ++ (varsR qs 0 (key t) (NumR t.Coef).1).1)).2 != 0) = false := by simpa using d
          rw [db, putR, if_pos g, if_pos d]
          exact ih _ (add_good ha hg)
        · rw [putR, if_pos g, if_neg d, res_other d]; rfl
      · have gb : ((varsR qs 0 (key t) (NumR t.Coef).1).2 == 0) = false := by simpa using g
        rw [putR, if_neg g, vars_other _ _ _ _ g]; rfl
theorem rputs_ok (F : Nat) (hF : 1000 ≤ F) {p : List api_Term} (hp : Good p) {qs : List (List api_Term)} (hq : QG qs) : R13_Put F p qs = some (putR qs p []) := by
  have := rput_loop F hF hp hq p [] F [] good_nil rfl (by have := hp.len; omega)
  simpa [R13_Put] using this
end Go.Proofs.Ytfbkgjmpadknfaa.M
