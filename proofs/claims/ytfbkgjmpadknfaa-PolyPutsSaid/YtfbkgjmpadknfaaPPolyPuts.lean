/-
  PolyPuts for every input: the value of what is put.
-/
import Derived.Test.YtfbkgjmpadknfaaPK
namespace Go.Proofs.Ytfbkgjmpadknfaa.M
open Go.Proofs.YtfbkgjmpadknfaaW.Ah Go.Proofs.Ytfbkgjmpadknfaa
set_option linter.unusedVariables false
set_option linter.unusedSimpArgs false

theorem awake_same (F G : Nat) (hF : 1000 ≤ F) (hG : 1000 ≤ G) : L13_awake F = L13_awake G := by
  have v0 := var_good 0
  have n2 := num_good 2
  have n3 := num_good 3
  have a1 := add_good v0 n2
  have a2 := add_good v0 n3
  have hl : ([4] : List Int).length ≤ maxLen := by simp [maxLen]
  unfold L13_awake
  simp only [var_ok, num_ok, Option.bind_some, add_ok F hF v0.fit n2.fit, add_ok G hG v0.fit n2.fit, add_ok F hF v0.fit n3.fit, add_ok G hG v0.fit n3.fit, mul_ok F hF a1 a2, mul_ok G hG a1 a2,
    at_ok' F hF (mul_good a1 a2) [4] hl, at_ok' G hG (mul_good a1 a2) [4] hl]
theorem awake_gen (F : Nat) (hF : 1000 ≤ F) : L13_awake F = some true := (awake_same F 2000 hF (by omega)).trans awake_ok

theorem copy_loop (F : Nat) (v : List Int) (hv : v.length ≤ 20) (hw : ∀ x ∈ v, W5 x) (K : List Int → Option Bool) : ∀ (l pre : List Int) (n : Nat), v = pre ++ l → l.length < n → L13_PolyPuts_L0 F v K n pre (pre.length : Int) = K v
  | [], pre, n, h, hn => by
    cases n with
    | zero => omega
    | succ n => rw [L13_PolyPuts_L0, h]; simp
  | x :: l, pre, n, h, hn => by
    cases n with
    | zero => omega
    | succ n =>
      have hlen : pre.length < v.length := by rw [h]; simp
      have hidx : idx v (pre.length : Int) = some x := by rw [h]; exact idx_mid _ _ _
      have wx := hw x (by rw [h]; simp)
      have := w5_lo wx
      have := w5_hi wx
      rw [L13_PolyPuts_L0]
      have hlt : decide ((pre.length : Int) < (v.length : Int)) = true := by simp; omega
      rw [hlt]
      simp only [cond_true, hidx, Option.bind_some, wrap_ok (show -9223372036854775808 ≤ x by omega) (by omega)]
      rw [app_ok (by simp [roomMax]; omega) (by omega), wrapS _ (by omega)]
      simp only [Option.bind_some]
      have ih := copy_loop F v hv hw K l (pre ++ [x]) n (by simp [h]) (by simp at hn; omega)
      simpa using ih

theorem vv_app (out : List Int) (x : Int) (j : Nat) (h : j < out.length) : vv (out ++ [x]) j = vv out j := by
  unfold vv; simp [List.getElem?_append_left h]
theorem vv_last (out : List Int) (x : Int) : vv (out ++ [x]) out.length = if x < 0 then 0 else x := by
  unfold vv; simp
theorem vals_loop (F : Nat) (hF : 1000 ≤ F) {qs : List (List api_Term)} (hq : QG qs) (v : List Int) (hv : v.length ≤ 20) (K : List Int → List Int → Option Bool)
    (hK : ∀ w : List Int, w.length = 12 → (∀ j, j < 12 → vv w j = val (qv qs j) v) → K v w = some true) : ∀ (r n : Nat) (out : List Int), out.length + r = 12 → r < n → (∀ j, j < out.length → vv out j = val (qv qs j) v) → L13_PolyPuts_L1 F qs K n v out (out.length : Int) = some true
  | 0, n, out, hr, hn, ho => by
    cases n with
    | zero => omega
    | succ n =>
      rw [L13_PolyPuts_L1]
      have : ¬ (out.length : Int) < 12 := by omega
      simp only [this, decide_false, cond_false]
      exact hK out (by omega) (fun j hj => ho j (by omega))
  | r + 1, n, out, hr, hn, ho => by
    cases n with
    | zero => omega
    | succ n =>
      have hvl : v.length ≤ maxLen := by simp [maxLen]; omega
      rw [L13_PolyPuts_L1]
      have hlt : decide ((out.length : Int) < 12) = true := by simp; omega
      rw [hlt]
      have tail : ∀ x : Int, (if x < 0 then 0 else x) = val (qv qs out.length) v → ((appM 8 out ([x] : List Int)).bind fun x53 => L13_PolyPuts_L1 F qs K n v x53 (IntKind.i64.wrap ((out.length : Int) + 1))) = some true := by
        intro x hx
        rw [app_ok (by simp [roomMax]; omega) (by omega), wrapS _ (by omega)]
        simp only [Option.bind_some]
        have ih := vals_loop F hF hq v hv K hK r n (out ++ [x]) (by simp; omega) (by omega) (fun j hj => by
          simp only [List.length_append, List.length_singleton] at hj
          by_cases e : j < out.length
          · rw [vv_app _ _ _ e]; exact ho j e
          · have : j = out.length := by omega
            subst this
            rw [vv_last]; exact hx)
        simpa using ih
      simp only [cond_true, joinM]
      refine cond_both (fun c => ?_) (fun c => ?_)
      · have c : out.length < qs.length := by simp at c; omega
        have hi : idx qs (out.length : Int) = some (qv qs out.length) := by
          rw [idx_nat, List.getElem?_eq_getElem c]; unfold qv; simp [c]
        have hg := qv_good hq out.length
        simp only [hi, Option.bind_some, at_ok' F hF hg v hvl]
        refine cond_both (fun _ => by simp [awake_gen F hF]) (fun hz => ?_)
        have hz := atV_zero (by simpa using hz)
        refine tail _ ?_
        rw [hz.2, if_neg (by have := val_nonneg hg.pos v; omega)]
      · have c : ¬ out.length < qs.length := by simp at c; omega
        have hqv : qv qs out.length = [unitT out.length] := by unfold qv; simp [List.getElem?_eq_none (show qs.length ≤ out.length by omega)]
        have hval : val (qv qs out.length) v = vv v out.length := by rw [hqv]; exact unit_val v _ (by omega)
        have z0 : ((0 : Int) != 0) = false := rfl
        refine cond_both (fun d => ?_) (fun d => ?_)
        · have d : out.length < v.length := by simp at d; omega
          have hi : idx v (out.length : Int) = some v[out.length] := by rw [idx_nat, List.getElem?_eq_getElem d]
          simp only [hi, Option.bind_some, z0, cond_false]
          refine tail _ ?_
          rw [hval]; unfold vv; simp [d]
        · have d : ¬ out.length < v.length := by simp at d; omega
          simp only [z0, cond_false]
          refine tail _ ?_
          rw [hval]; unfold vv; simp [List.getElem?_eq_none (show v.length ≤ out.length by omega)]

theorem puts_gen (F : Nat) (hF : 1000 ≤ F) (x0 : List api_Term) (x1 : List (List api_Term)) (x2 : List Int) (hF1 : 100 + x1.length ≤ F) (w0 : W37 x0) (w1 : W39 x1) (w2 : W50 x2) : L13_PolyPuts F x0 x1 x2 = some true := by
  unfold L13_PolyPuts
  have hA := awake_gen F hF
  obtain ⟨b, hb, hg⟩ := few_ok F [x0] (by simp [maxLen]) (by simp; omega)
  obtain ⟨c, hc, hh⟩ := few_ok F x1 w1.1 hF1
  simp only [hb, hc, Option.bind_some, joinM]
  cases b with
  | false => simp [hA]
  | true =>
    cases c with
    | false => simp [hA]
    | true =>
      have ga : Good x0 := ⟨(hg rfl).2 x0 (by simp), nn_of w0⟩
      have gq : QG x1 := fun q hq => ⟨(hh rfl).2 q hq, nn_of (w1.2 q hq)⟩
      simp only [Bool.not_true, cond_false, Bool.false_or]
      refine cond_both (fun _ => by simp [hA]) (fun hl => ?_)
      have hl : x2.length ≤ 20 := by simp at hl; omega
      have hlm : x2.length ≤ maxLen := by simp [maxLen]; omega
      simp only [put_ok F hF ga gq, Option.bind_some]
      refine cond_both (fun _ => by simp [hA]) (fun hz => ?_)
      have hz : (putR x1 x0 []).2 = 0 := by simpa using hz
      refine (copy_loop F x2 hl w2.2 _ x2 [] F rfl (by omega)).trans ?_
      refine vals_loop F hF gq x2 hl _ (fun w hw1 hw2 => ?_) 12 F [] (by simp) (by omega) (fun j hj => by simp at hj)
      have hv := put_val ga gq x2 w hw2 x0 (fun t ht => ht) good_nil hz
      have gp := put_good gq x0 good_nil
      simp only [at_ok' F hF gp x2 hlm, at_ok' F hF ga w (by simp [maxLen]; omega), Option.bind_some]
      have : atV (putR x1 x0 []).1 x2 = atV x0 w := by
        unfold atV
        have : val (putR x1 x0 []).1 x2 = val x0 w := by rw [hv]; simp [dot]
        rw [this]
      simp [this, hA]
theorem holds_PolyPuts (x0 : List api_Term) (x1 : List (List api_Term)) (x2 : List Int) (w0 : W37 x0) (w1 : W39 x1) (w2 : W50 x2) : ∃ F, L13_PolyPuts F x0 x1 x2 = some true :=
  ⟨2000 + x1.length, puts_gen _ (by omega) x0 x1 x2 (by omega) w0 w1 w2⟩
end Go.Proofs.Ytfbkgjmpadknfaa.M
