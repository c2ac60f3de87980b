/-
  Sums of terms: the document's sums, products and putting.
-/
import Derived.Test.YtfbkgjmpadknfaaPK
namespace Go.Proofs.Ytfbkgjmpadknfaa.M
open Go.Proofs.YtfbkgjmpadknfaaW.Ah Go.Proofs.Ytfbkgjmpadknfaa
set_option linter.unusedVariables false
set_option linter.unusedSimpArgs false

def oneOf (add : Bool) : api_Term → api_Term → api_Term := if add then addT else maxT
theorem oneOf_key (add : Bool) (s t : api_Term) : key (oneOf add s t) = key s := by cases add <;> rfl

theorem rput_done (F : Nat) (p : List api_Term) (hp : p.length ≤ 200) (t : api_Term) (add : Bool) (K : List api_Term → Bool → Option (List api_Term)) : ∀ (l pre out : List api_Term) (n : Nat), p = pre ++ l → l.length < n → out.length ≤ pre.length + 1 → (∀ x ∈ l, key x ≠ key t) →
    R13_put_L0 F p t add K n out true (pre.length : Int) = K (out ++ l) true
  | [], pre, out, n, h, hn, ho, hx => by
    cases n with
    | zero => omega
    | succ n => rw [R13_put_L0, h]; simp
  | x :: l, pre, out, n, h, hn, ho, hx => by
    cases n with
    | zero => omega
    | succ n =>
      have hlen : pre.length < p.length := by rw [h]; simp
      have hidx : idx p (pre.length : Int) = some x := by rw [h]; exact idx_mid _ _ _
      have ih := rput_done F p hp t add K l (pre ++ [x]) (out ++ [x]) n (by simp [h]) (by simp at hn; omega) (by simp; omega) (fun y hy => hx y (List.mem_cons_of_mem _ hy))
      simp only [List.length_append, List.length_singleton] at ih
      have ne : (x.Exps.1 == t.Exps.1) = false := by simpa using hx x List.mem_cons_self
      rw [R13_put_L0]
      have hlt : decide ((pre.length : Int) < (p.length : Int)) = true := by simp; omega
      rw [hlt]
      simp only [cond_true, hidx, Option.bind_some, joinM, Bool.not_true, cond_false, ne]
      rw [app_ok (by simp [roomMax]; omega) (by omega), wrapS _ (by omega)]
      simp only [Option.bind_some, ih]
      simp
theorem rput_todo (F : Nat) (hF : 100 ≤ F) (p : List api_Term) (hp : p.length ≤ 200) (t : api_Term) (add : Bool) (ht : 0 ≤ t.Coef ∧ t.Coef ≤ 2305843009213693952) (hc : ∀ x ∈ p, 0 ≤ x.Coef ∧ x.Coef ≤ 2305843009213693952) : ∀ (l pre out : List api_Term) (n : Nat), p = pre ++ l → l.length < n → out.length ≤ pre.length → Srt l →
    R13_put_L0 F p t add (fun v4 v5 => bif (!v5) then ((appM 24 v4 ([t] : List api_Term)).bind fun x35 => some x35) else (some v4)) n out false (pre.length : Int) = some (out ++ mrg (oneOf add) l [t])
  | [], pre, out, n, h, hn, ho, hs => by
    cases n with
    | zero => omega
    | succ n =>
      have hlp : pre.length ≤ 200 := by rw [h] at hp; simpa using hp
      rw [R13_put_L0, h]
      simp only [List.append_nil, Int.lt_irrefl, decide_false, cond_false, Bool.not_false, cond_true, mrg]
      rw [app_ok (by simp [roomMax]; omega) (by omega)]; rfl
  | x :: l, pre, out, n, h, hn, ho, hs => by
    cases n with
    | zero => omega
    | succ n =>
      have hlen : pre.length < p.length := by rw [h]; simp
      have hidx : idx p (pre.length : Int) = some x := by rw [h]; exact idx_mid _ _ _
      have hcx := hc x (by rw [h]; simp)
      have hs1 := (List.pairwise_cons.1 hs).1
      have hkl : (key x).length = (key t).length := by rw [key_len, key_len]
      rw [R13_put_L0]
      have hlt : decide ((pre.length : Int) < (p.length : Int)) = true := by simp; omega
      rw [hlt]
      simp only [cond_true, hidx, Option.bind_some, joinM, Bool.not_false, less_ok F (by omega : 20 ≤ F)]
      have happ : ∀ (o : List api_Term) (y : api_Term), o.length ≤ 201 → appM 24 o [y] = some (o ++ [y]) := fun o y ho => app_ok (by simp [roomMax]; omega) (by omega)
      by_cases c : ltL (key t) (key x) = true
      · have ne : (x.Exps.1 == t.Exps.1) = false := by
          have := ltL_ne c; simpa using fun e => this e.symm
        have hm : mrg (oneOf add) (x :: l) [t] = t :: x :: l := by
          have g1 : 0 < cmpL (key x) (key t) := (cmpL_gt hkl).2 c
          rw [mrg, if_neg (by omega), if_pos g1, mrg_nil]
        rw [show ltL t.Exps.1 x.Exps.1 = true from c, hm]
        simp only [cond_true, ne, cond_false, happ out t (by omega), Option.bind_some]
        rw [happ _ x (by simp; omega), wrapS _ (by omega)]
        simp only [Option.bind_some]
        have := rput_done F p hp t add (fun v4 v5 => bif (!v5) then ((appM 24 v4 ([t] : List api_Term)).bind fun x35 => some x35) else (some v4)) l (pre ++ [x]) (out ++ [t] ++ [x]) n (by simp [h]) (by simp at hn; omega) (by simp; omega) (fun y hy e => by
          have := ltL_trans c (hs1 y hy); rw [e, ltL_irrefl] at this; cases this)
        simp only [List.length_append, List.length_singleton] at this
        rw [this]; simp
      · have cf : ltL t.Exps.1 x.Exps.1 = false := by simpa using c
        simp only [cf, cond_false]
        have g1 : ¬ 0 < cmpL (key x) (key t) := by rw [cmpL_gt hkl]; simpa using c
        by_cases e : key x = key t
        · have eb : (x.Exps.1 == t.Exps.1) = true := by simpa using e
          have g2 : ¬ cmpL (key x) (key t) < 0 := by rw [cmpL_lt hkl, e, ltL_irrefl]; simp
          have hm : mrg (oneOf add) (x :: l) [t] = oneOf add x t :: l := by
            rw [mrg, if_neg g2, if_neg g1, mrg_nil]
          have fin : ∀ y : api_Term, ((appM 24 out ([y] : List api_Term)).bind fun x31 => R13_put_L0 F p t add (fun v4 v5 => bif (!v5) then ((appM 24 v4 ([t] : List api_Term)).bind fun x35 => some x35) else (some v4)) n x31 true (IntKind.i64.wrap ((pre.length : Int) + 1))) = some (out ++ y :: l) := by
            intro y
            rw [happ _ y (by omega), wrapS _ (by omega)]
            simp only [Option.bind_some]
            have := rput_done F p hp t add (fun v4 v5 => bif (!v5) then ((appM 24 v4 ([t] : List api_Term)).bind fun x35 => some x35) else (some v4)) l (pre ++ [x]) (out ++ [y]) n (by simp [h]) (by simp at hn; omega) (by simp; omega) (fun z hz e' => by
              have := hs1 z hz; rw [e, e', ltL_irrefl] at this; cases this)
            simp only [List.length_append, List.length_singleton] at this
            rw [this]; simp
          rw [hm, eb]
          cases add with
          | true =>
            simp only [cond_true, wrap_ok (show -9223372036854775808 ≤ x.Coef + t.Coef by omega) (by omega)]
            exact fin _
          | false =>
            simp only [cond_true, cond_false]
            exact fin _
        · have eb : (x.Exps.1 == t.Exps.1) = false := by simpa using e
          have g2 : cmpL (key x) (key t) < 0 := by
            rw [cmpL_lt hkl]; exact ltL_tri hkl.symm (fun h => e h.symm) cf
          have hm : mrg (oneOf add) (x :: l) [t] = x :: mrg (oneOf add) l [t] := by
            rw [mrg, if_pos g2]
          rw [hm, eb]
          simp only [cond_false]
          rw [happ _ x (by omega), wrapS _ (by omega)]
          simp only [Option.bind_some]
          have ih := rput_todo F hF p hp t add ht hc l (pre ++ [x]) (out ++ [x]) n (by simp [h]) (by simp at hn; omega) (by simp; omega) (List.pairwise_cons.1 hs).2
          simp only [List.length_append, List.length_singleton] at ih
          rw [ih]; simp
theorem rput_ok (F : Nat) (hF : 1000 ≤ F) {p : List api_Term} (hp : p.length ≤ 200) (t : api_Term) (add : Bool) (ht : 0 ≤ t.Coef ∧ t.Coef ≤ 2305843009213693952) (hc : ∀ x ∈ p, 0 ≤ x.Coef ∧ x.Coef ≤ 2305843009213693952) (hs : Srt p) :
    R13_put F p t add = some (mrg (oneOf add) p [t]) := by
  have := rput_todo F (by omega) p hp t add ht hc p [] [] F rfl (by omega) (by simp) hs
  unfold R13_put joinM
  simpa using this

theorem mrg_len (one : api_Term → api_Term → api_Term) : ∀ (a b : List api_Term), (mrg one a b).length ≤ a.length + b.length
  | [], b => by simp [mrg]
  | s :: a, [] => by simp [mrg]
  | s :: a, t :: b => by
    rw [mrg]
    split
    · have := mrg_len one a (t :: b); simp at this ⊢; omega
    · split
      · have := mrg_len one (s :: a) b; simp at this ⊢; omega
      · have := mrg_len one a b; simp at this ⊢; omega
termination_by a b => a.length + b.length
theorem norm_len : ∀ (l : List api_Term), (norm l).length ≤ l.length
  | [] => Nat.le_refl _
  | t :: l => by
    have h1 := mrg_len addT [t] (norm l)
    have h2 := norm_len l
    simp only [norm, List.length_cons, List.length_nil] at h1 ⊢; omega
theorem coef_le {p : List api_Term} (hp : Good p) (k : List Int) : coef p k ≤ 1099511627776 := by
  by_cases h : ∃ t ∈ p, key t = k
  · obtain ⟨t, ht, e⟩ := h
    have : ∀ (l : List api_Term), Srt l → t ∈ l → coef l (key t) = t.Coef := by
      intro l
      induction l with
      | nil => intro _ h; cases h
      | cons s l ih =>
        intro hs hm
        rcases List.mem_cons.1 hm with rfl | hm
        · exact coef_head hs
        · rw [coef_cons, if_neg (fun e => ltL_ne ((List.pairwise_cons.1 hs).1 t hm) e), ih (List.pairwise_cons.1 hs).2 hm]; omega
    rw [← e, this p hp.srt ht]; exact (hp.coef ht).2
  · rw [coef_none (fun t ht e => h ⟨t, ht, e⟩)]; omega
theorem coef_mem {p : List api_Term} (hs : Srt p) {t : api_Term} (ht : t ∈ p) : coef p (key t) = t.Coef := by
  induction p with
  | nil => cases ht
  | cons s l ih =>
    rcases List.mem_cons.1 ht with rfl | hm
    · exact coef_head hs
    · rw [coef_cons, if_neg (fun e => ltL_ne ((List.pairwise_cons.1 hs).1 t hm) e), ih (List.pairwise_cons.1 hs).2 hm]; omega
theorem norm_one (t : api_Term) : norm [t] = [t] := by simp [norm, mrg]
theorem Pos.one {t : api_Term} (h : 1 ≤ t.Coef) : Pos [t] := fun s hs => by rw [List.mem_singleton.1 hs]; exact h

theorem merge_add (F : Nat) (hF : 1000 ≤ F) {a b : List api_Term} (ha : Good a) (hb : Good b) (K : List api_Term → Option (List api_Term × Int)) : ∀ (l pre : List api_Term) (n : Nat), b = pre ++ l → l.length < n →
    R13_merge_L0 F b true K n (norm (a ++ pre)) (pre.length : Int) = K (norm (a ++ b))
  | [], pre, n, h, hn => by
    cases n with
    | zero => omega
    | succ n => rw [R13_merge_L0, h]; simp
  | t :: l, pre, n, h, hn => by
    cases n with
    | zero => omega
    | succ n =>
      have hla := ha.len
      have hlb := hb.len
      have hlen : pre.length < b.length := by rw [h]; simp
      have hidx : idx b (pre.length : Int) = some t := by rw [h]; exact idx_mid _ _ _
      have htm : t ∈ b := by rw [h]; simp
      have tc := hb.coef htm
      have pp : Pos pre := fun x hx => hb.pos x (by rw [h]; exact List.mem_append_left _ hx)
      have pl : Pos (t :: l) := fun x hx => hb.pos x (by rw [h]; exact List.mem_append_right _ hx)
      rw [R13_merge_L0]
      have hlt : decide ((pre.length : Int) < (b.length : Int)) = true := by simp; omega
      rw [hlt]
      have hput := rput_ok F hF (p := norm (a ++ pre)) (by have := norm_len (a ++ pre); simp at this; omega) t true (by omega) (fun x hx => by
        have h1 := coef_mem (norm_srt (a ++ pre)) hx
        have h2 := norm_pos (ha.pos.append pp) x hx
        have h3 : coef (norm (a ++ pre)) (key x) = coef a (key x) + coef pre (key x) := by
          show dot _ _ = _; rw [norm_dot, dot_append]
        have h4 := coef_le ha (key x)
        have h5 := coef_le hb (key x)
        have h6 := coef_nonneg pl (key x)
        have h7 : coef b (key x) = coef pre (key x) + coef (t :: l) (key x) := by rw [h]; exact dot_append _ _ _
        omega) (norm_srt _)
      have e : mrg (oneOf true) (norm (a ++ pre)) [t] = norm (a ++ (pre ++ [t])) := by
        rw [← List.append_assoc, norm_append (ha.pos.append pp) (Pos.one tc.1), norm_one]; rfl
      simp only [cond_true, hidx, Option.bind_some, hput, e, wrapS _ (show pre.length < 9223372036854775807 by omega)]
      have ih := merge_add F hF ha hb K l (pre ++ [t]) n (by simp [h]) (by simp at hn; omega)
      simpa using ih
theorem rown_ok (F : Nat) {p : List api_Term} (hp : p.length ≤ 64) : R13_own F p = some p := by
  unfold R13_own; rw [app_ok (by simp [roomMax]; omega) (by omega)]; rfl
theorem radd_ok (F : Nat) (hF : 1000 ≤ F) {a b : List api_Term} (ha : Good a) (hb : Good b) : R13_Add F a b = some (Res (a ++ b)) := by
  have := merge_add F hF ha hb (fun v1 => (R13_Fit F v1).bind fun x9 => bif (!x9) then (some (([] : (List api_Term)), 17)) else ((R13_own F v1).bind fun x11 => some (x11, 0))) b [] F rfl (by have := hb.len; omega)
  simp only [List.append_nil, ha.norm, List.length_nil, Int.natCast_zero, rfit_ok F (by omega : 100 ≤ F), Option.bind_some] at this
  unfold R13_Add R13_merge joinM
  simp only [rfit_ok F (by omega : 100 ≤ F), Option.bind_some]
  rw [this]
  cases hf : fitB (norm (a ++ b)) with
  | false => rw [res_no hf]; rfl
  | true =>
    rw [res_yes hf]
    simp only [Bool.not_true, cond_false, rown_ok F ((fit_iff _).1 hf).1, Option.bind_some]

def foldX (acc l : List api_Term) : List api_Term := l.foldl (fun acc t => mrg maxT acc [t]) acc
theorem merge_max (F : Nat) (hF : 1000 ≤ F) {b : List api_Term} (hb : Good b) (K : List api_Term → Option (List api_Term × Int)) : ∀ (l pre acc : List api_Term) (n : Nat), b = pre ++ l → l.length < n → Srt acc → Pos acc → (∀ x ∈ acc, x.Coef ≤ 1099511627776) → acc.length ≤ 64 + pre.length →
    R13_merge_L0 F b false K n acc (pre.length : Int) = K (foldX acc l)
  | [], pre, acc, n, h, hn, _, _, _, _ => by
    cases n with
    | zero => omega
    | succ n => rw [R13_merge_L0, h]; simp [foldX]
  | t :: l, pre, acc, n, h, hn, hs, hp, hc, hl => by
    cases n with
    | zero => omega
    | succ n =>
      have hlb := hb.len
      have hlen : pre.length < b.length := by rw [h]; simp
      have hidx : idx b (pre.length : Int) = some t := by rw [h]; exact idx_mid _ _ _
      have htm : t ∈ b := by rw [h]; simp
      have tc := hb.coef htm
      rw [R13_merge_L0]
      have hlt : decide ((pre.length : Int) < (b.length : Int)) = true := by simp; omega
      rw [hlt]
      have hput := rput_ok F hF (p := acc) (by omega) t false (by omega) (fun x hx => by have := hp x hx; have := hc x hx; omega) hs
      have ps := max_pos acc [t] hp (Pos.one tc.1)
      have ss := max_srt hs (show Srt [t] from List.pairwise_singleton _ _)
      simp only [cond_true, hidx, Option.bind_some, hput, wrapS _ (show pre.length < 9223372036854775807 by omega)]
      have ih := merge_max F hF hb K l (pre ++ [t]) (mrg maxT acc [t]) n (by simp [h]) (by simp at hn; omega) ss ps (fun x hx => by
        have h1 := coef_mem ss hx
        have h2 := coef_max (key x) acc [t] hs (List.pairwise_singleton _ _) hp (Pos.one tc.1)
        have h3 : coef acc (key x) ≤ 1099511627776 := by
          by_cases h : ∃ y ∈ acc, key y = key x
          · obtain ⟨y, hy, e⟩ := h
            rw [← e, coef_mem hs hy]; exact hc y hy
          · rw [coef_none (fun y hy e => h ⟨y, hy, e⟩)]; omega
        have h4 : coef [t] (key x) ≤ 1099511627776 := by
          rw [coef_cons]; show _ + (0 : Int) ≤ _; split <;> omega
        unfold mx at h2; split at h2 <;> omega) (by have := mrg_len maxT acc [t]; simp at this ⊢; omega)
      simpa [foldX, oneOf] using ih
theorem fold_max : ∀ (l acc : List api_Term), Srt l → Pos l → Srt acc → Pos acc → Srt (foldX acc l) ∧ Pos (foldX acc l) ∧ ∀ k, coef (foldX acc l) k = mx (coef acc k) (coef l k)
  | [], acc, _, _, hs, hp => by
    refine ⟨hs, hp, fun k => ?_⟩
    have := coef_nonneg hp k
    show coef acc k = if coef acc k < 0 then 0 else coef acc k
    rw [if_neg (by omega)]
  | t :: l, acc, hsl, hpl, hs, hp => by
    have t1 := hpl t List.mem_cons_self
    have ps := max_pos acc [t] hp (Pos.one t1)
    have ss := max_srt hs (show Srt [t] from List.pairwise_singleton _ _)
    obtain ⟨h1, h2, h3⟩ := fold_max l (mrg maxT acc [t]) (List.pairwise_cons.1 hsl).2 hpl.tail ss ps
    refine ⟨h1, h2, fun k => ?_⟩
    show coef (foldX (mrg maxT acc [t]) l) k = _
    rw [h3, coef_max k acc [t] hs (List.pairwise_singleton _ _) hp (Pos.one t1), coef_cons t l k, coef_cons t [] k]
    have n1 := coef_nonneg hp k
    have n2 := coef_nonneg hpl.tail k
    show mx (mx (coef acc k) (_ + 0)) _ = _
    by_cases e : key t = k
    · rw [if_pos e]
      have : coef l k = 0 := by rw [← e]; exact coef_tail hsl
      rw [this]; unfold mx
      (repeat' split) <;> omega
    · rw [if_neg e]; unfold mx
      (repeat' split) <;> omega
theorem rmax_ok (F : Nat) (hF : 1000 ≤ F) {a b : List api_Term} (ha : Good a) (hb : Good b) : R13_Max F a b = some (MaxR a b) := by
  have := merge_max F hF hb (fun v1 => (R13_Fit F v1).bind fun x9 => bif (!x9) then (some (([] : (List api_Term)), 17)) else ((R13_own F v1).bind fun x11 => some (x11, 0))) b [] a F rfl (by have := hb.len; omega) ha.srt ha.pos (fun x hx => (ha.coef hx).2) (by have := ha.len; simp; omega)
  obtain ⟨h1, h2, h3⟩ := fold_max b a hb.srt hb.pos ha.srt ha.pos
  have e : foldX a b = mrg maxT a b := sum_ext h1 (max_srt ha.srt hb.srt) h2 (max_pos _ _ ha.pos hb.pos) (fun k => by
    rw [h3, coef_max k a b ha.srt hb.srt ha.pos hb.pos])
  simp only [List.length_nil, Int.natCast_zero, e, rfit_ok F (by omega : 100 ≤ F), Option.bind_some] at this
  unfold R13_Max R13_merge joinM MaxR
  simp only [rfit_ok F (by omega : 100 ≤ F), Option.bind_some]
  rw [this]
  cases hf : fitB (mrg maxT a b) with
  | false => rfl
  | true =>
    simp only [Bool.not_true, cond_false, rown_ok F ((fit_iff _).1 hf).1, Option.bind_some]; rfl
end Go.Proofs.Ytfbkgjmpadknfaa.M
