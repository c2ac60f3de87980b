/-
  Sums of terms: products.
-/
import Derived.Test.YtfbkgjmpadknfaaPC
namespace Go.Proofs.Ytfbkgjmpadknfaa.M
open Go.Proofs.YtfbkgjmpadknfaaW.Ah Go.Proofs.Ytfbkgjmpadknfaa
set_option linter.unusedVariables false
set_option linter.unusedSimpArgs false

/-- No exponent below zero. -/
def NN (l : List api_Term) : Prop := ∀ t ∈ l, ∀ e ∈ key t, 0 ≤ e
theorem NN.tail {t : api_Term} {l : List api_Term} (h : NN (t :: l)) : NN l := fun s hs => h s (List.mem_cons_of_mem _ hs)
theorem NN.append {a b : List api_Term} (h : NN a) (g : NN b) : NN (a ++ b) := fun s hs => (List.mem_append.1 hs).elim (h s) (g s)
theorem norm_keys : ∀ (l : List api_Term) (x : api_Term), x ∈ norm l → ∃ s ∈ l, key x = key s
  | [], x, h => by cases h
  | t :: l, x, h => by
    rcases mrg_keys (one := addT) (fun _ _ => rfl) _ _ x h with ⟨y, hy, e⟩ | ⟨y, hy, e⟩
    · rw [List.mem_singleton] at hy; subst hy; exact ⟨y, List.mem_cons_self, e⟩
    · obtain ⟨z, hz, e'⟩ := norm_keys l y hy
      exact ⟨z, List.mem_cons_of_mem _ hz, e.trans e'⟩
theorem norm_nn {l : List api_Term} (h : NN l) : NN (norm l) := fun x hx e he => by
  obtain ⟨s, hs, e'⟩ := norm_keys l x hx
  rw [e'] at he; exact h s hs e he

/-- A sum that can be. -/
structure Good (p : List api_Term) : Prop where
  fit : fitB p = true
  nn : NN p
theorem Good.pos {p : List api_Term} (h : Good p) : Pos p := fit_pos h.fit
theorem Good.srt {p : List api_Term} (h : Good p) : Srt p := fit_srt h.fit
theorem Good.len {p : List api_Term} (h : Good p) : p.length ≤ 64 := ((fit_iff p).1 h.fit).1
theorem Good.norm {p : List api_Term} (h : Good p) : norm p = p := norm_fit h.fit
theorem Good.exps {p : List api_Term} (h : Good p) {t : api_Term} (ht : t ∈ p) : ∀ e ∈ key t, 0 ≤ e ∧ e ≤ 6 := fun e he =>
  ⟨h.nn t ht e he, ((okT_iff t).1 (((fit_iff p).1 h.fit).2.1 t ht)).2.2 e he⟩
theorem Good.coef {p : List api_Term} (h : Good p) {t : api_Term} (ht : t ∈ p) : 1 ≤ t.Coef ∧ t.Coef ≤ 1099511627776 := by
  obtain ⟨a, b, _⟩ := (okT_iff t).1 (((fit_iff p).1 h.fit).2.1 t ht); exact ⟨a, b⟩
theorem good_nil : Good [] := ⟨rfl, fun t h => by cases h⟩

theorem res_good {l : List api_Term} (h : NN l) : Good (Res l).1 := by
  unfold Res; split
  · rename_i hf; exact ⟨hf, norm_nn h⟩
  · exact good_nil
theorem res_yes {l : List api_Term} (h : fitB (norm l) = true) : Res l = (norm l, 0) := by unfold Res; rw [if_pos h]
theorem res_no {l : List api_Term} (h : fitB (norm l) = false) : Res l = ([], 17) := by unfold Res; rw [h]; rfl
theorem res_zero {l : List api_Term} (h : (Res l).2 = 0) : fitB (norm l) = true ∧ (Res l).1 = norm l := by
  cases hf : fitB (norm l) with
  | true => rw [res_yes hf]; exact ⟨rfl, rfl⟩
  | false => rw [res_no hf] at h; cases h
/-- A part of what can be can be. -/
theorem fit_sub {l m r : List api_Term} (hl : Pos l) (hm : Pos m) (hr : Pos r) (h : ∀ k, coef m k = coef l k + coef r k) (hf : fitB (norm m) = true) : fitB (norm l) = true := by
  rw [norm_congr hm (hl.append hr) (fun k => by rw [h k]; exact (dot_append _ _ _).symm)] at hf
  exact fit_part hl hr hf

def mulT (s t : api_Term) : api_Term := ⟨⟨List.zipWith (· + ·) (key s) (key t), by rw [List.length_zipWith, key_len, key_len]; rfl⟩, s.Coef * t.Coef⟩

theorem quo_ok {c : Int} (h1 : 1 ≤ c) : quoM .i64 1099511627776 c = some (1099511627776 / c) := by
  unfold quoM
  rw [if_neg (by omega), Int.tdiv_eq_ediv_of_nonneg (by omega)]
  have h2 : 0 ≤ 1099511627776 / c := Int.ediv_nonneg (by omega) (by omega)
  have h3 : 1099511627776 / c ≤ 1099511627776 := Int.ediv_le_self _ (by omega)
  rw [wrap_ok (by omega) (by omega)]
theorem quo_lt {c x : Int} (h1 : 1 ≤ c) : (1099511627776 / c < x) ↔ 1099511627776 < x * c := by
  have := Int.le_ediv_iff_mul_le (a := x) (b := 1099511627776) (show 0 < c by omega)
  omega

theorem wrap_u8 {x : Int} (h1 : 0 ≤ x) (h2 : x ≤ 255) : IntKind.u8.wrap x = x := by
  simp [IntKind.wrap, IntKind.signed, IntKind.bits]; omega

theorem set_mid {α : Type} (pre : List α) (x y : α) (l : List α) : (pre ++ x :: l).set pre.length y = pre ++ y :: l := by
  rw [List.set_append_right _ _ (Nat.le_refl _)]; simp

theorem scaled_exps (F : Nat) (t : api_Term) (K : api_Term → Option (List api_Term × Bool)) : ∀ (us bs pa pb : List Int) (n : Nat) (w : api_Term), key w = pa ++ us → key t = pb ++ bs → pa.length = pb.length → us.length < n →
    (∀ e ∈ us, 0 ≤ e ∧ e ≤ 6) → (∀ e ∈ bs, 0 ≤ e ∧ e ≤ 6) → ∃ w', poly_scaled_L1 F t K n (pa.length : Int) w = K w' ∧ key w' = pa ++ List.zipWith (· + ·) us bs ∧ w'.Coef = w.Coef
  | [], bs, pa, pb, n, w, hw, ht, hl, hn, _, _ => by
    cases n with
    | zero => omega
    | succ n =>
      have h1 := key_len w; rw [hw] at h1; simp at h1
      refine ⟨w, ?_, by simpa using hw, rfl⟩
      rw [poly_scaled_L1]
      simp [h1]
  | x :: us, bs, pa, pb, n, w, hw, ht, hl, hn, hu, hb => by
    cases n with
    | zero => omega
    | succ n =>
      have h1 := key_len w; rw [hw] at h1; simp at h1
      have h2 := key_len t; rw [ht] at h2; simp at h2
      cases bs with
      | nil => simp at h2; omega
      | cons y bs =>
        obtain ⟨u1, u2⟩ := hu x List.mem_cons_self
        obtain ⟨v1, v2⟩ := hb y List.mem_cons_self
        rw [poly_scaled_L1]
        have hlt : decide ((pa.length : Int) < 12) = true := by simp; omega
        rw [hlt, show w.Exps.1 = pa ++ x :: us from hw, show t.Exps.1 = pb ++ y :: bs from ht, idx_mid, hl, idx_mid, ← hl]
        simp only [cond_true, Option.bind_some, wrapS _ (show pa.length < 9223372036854775807 by omega), wrap_u8 (show 0 ≤ x + y by omega) (by omega)]
        obtain ⟨w', e1, e2, e3⟩ := scaled_exps F t K us bs (pa ++ [x + y]) (pb ++ [y]) n { w with Exps := w.Exps.set (pa.length : Int) (x + y) } (by
          show w.Exps.1.set _ _ = _
          rw [show w.Exps.1 = pa ++ x :: us from hw, Int.toNat_natCast, set_mid]; simp) (by simp [ht]) (by simp [hl]) (by simp at hn; omega)
          (fun e he => hu e (List.mem_cons_of_mem _ he)) (fun e he => hb e (List.mem_cons_of_mem _ he))
        refine ⟨w', ?_, by rw [e2]; simp, e3⟩
        rw [← e1]; simp

theorem scaled_loop (F : Nat) (hF : 1000 ≤ F) (b : List api_Term) (t : api_Term) (hb : b.length ≤ 64) (K : List api_Term → Option (List api_Term × Bool)) (ht1 : 1 ≤ t.Coef) (ht2 : t.Coef ≤ 1099511627776) (ht3 : ∀ e ∈ key t, 0 ≤ e ∧ e ≤ 6) : ∀ (l pre rest : List api_Term) (n : Nat), b = pre ++ l → rest.length = l.length → l.length < n → (∀ x ∈ l, 1 ≤ x.Coef) → (∀ x ∈ l, ∀ e ∈ key x, 0 ≤ e ∧ e ≤ 6) →
    (poly_scaled_L0 F b t K n (pre.length : Int) (pre.map (mulT · t) ++ rest) = K (b.map (mulT · t))) ∨ ((∃ x ∈ l, 1099511627776 < x.Coef * t.Coef) ∧ poly_scaled_L0 F b t K n (pre.length : Int) (pre.map (mulT · t) ++ rest) = some ([], false))
  | [], pre, rest, n, h, hr, hn, _, _ => by
    cases n with
    | zero => omega
    | succ n =>
      left
      rw [poly_scaled_L0, h, List.length_eq_zero_iff.1 hr]; simp
  | x :: l, pre, rest, n, h, hr, hn, hx, hx2 => by
    cases n with
    | zero => omega
    | succ n =>
      have hlen : pre.length < b.length := by rw [h]; simp
      have hidx : idx b (pre.length : Int) = some x := by rw [h]; exact idx_mid _ _ _
      cases rest with
      | nil => simp at hr
      | cons z rest =>
        have hidx2 : idx (pre.map (mulT · t) ++ z :: rest) (pre.length : Int) = some z := by
          have := idx_mid (pre.map (mulT · t)) z rest
          rwa [List.length_map] at this
        rw [poly_scaled_L0]
        have hlt : decide ((pre.length : Int) < (b.length : Int)) = true := by simp; omega
        rw [hlt]
        simp only [cond_true, hidx, Option.bind_some, quo_ok ht1, quo_lt ht1, joinM]
        by_cases c : 1099511627776 < x.Coef * t.Coef
        · right
          refine ⟨⟨x, List.mem_cons_self, c⟩, ?_⟩
          simp [c]
        · have x1 := hx x List.mem_cons_self
          have hpos : 0 ≤ x.Coef * t.Coef := Int.mul_nonneg (by omega) (by omega)
          simp only [c, decide_false, cond_false]
          obtain ⟨w', e1, e2, e3⟩ := scaled_exps F t (fun v14 => (idx (pre.map (mulT · t) ++ z :: rest) (pre.length : Int)).bind fun x23 => poly_scaled_L0 F b t K n (IntKind.i64.wrap ((pre.length : Int) + 1)) ((pre.map (mulT · t) ++ z :: rest).set (pre.length : Int).toNat v14))
            (key x) (key t) [] [] F { x with Coef := IntKind.i64.wrap (x.Coef * t.Coef) } rfl rfl rfl (by rw [key_len]; omega) (hx2 x List.mem_cons_self) ht3
          have ew : w' = mulT x t := term_ext (by rw [e2]; simp [mulT]) (by rw [e3, wrap_ok (by omega) (by omega)]; rfl)
          simp only [List.length_nil, Int.natCast_zero] at e1
          rw [e1, ew, hidx2]
          simp only [Option.bind_some, wrapS _ (show pre.length < 9223372036854775807 by omega), Int.toNat_natCast]
          have hset : (pre.map (mulT · t) ++ z :: rest).set pre.length (mulT x t) = (pre ++ [x]).map (mulT · t) ++ rest := by
            have := set_mid (pre.map (mulT · t)) z (mulT x t) rest
            rw [List.length_map] at this; rw [this]; simp
          rw [hset]
          have ih := scaled_loop F hF b t hb K ht1 ht2 ht3 l (pre ++ [x]) rest n (by simp [h]) (by simpa using hr) (by simp at hn; omega) (fun y hy => hx y (List.mem_cons_of_mem _ hy)) (fun y hy => hx2 y (List.mem_cons_of_mem _ hy))
          simp only [List.length_append, List.length_singleton] at ih
          rcases ih with ih | ⟨⟨y, hy, hc⟩, ih⟩
          · exact .inl ih
          · exact .inr ⟨⟨y, List.mem_cons_of_mem _ hy, hc⟩, ih⟩

theorem scaled_ok (F : Nat) (hF : 1000 ≤ F) {b : List api_Term} (hb : Good b) {t : api_Term} (ht1 : 1 ≤ t.Coef) (ht2 : t.Coef ≤ 1099511627776) (ht3 : ∀ e ∈ key t, 0 ≤ e ∧ e ≤ 6) :
    ∃ q, poly_scaled F b t = some (q, fitB (b.map (mulT · t))) ∧ (fitB (b.map (mulT · t)) = true → q = b.map (mulT · t)) := by
  unfold poly_scaled joinM
  have hm : makM 24 (api_Term.mk (Arr.rep 12 0) 0) (b.length : Int) = some (List.replicate b.length (api_Term.mk (Arr.rep 12 0) 0)) := by
    have := hb.len
    unfold makM; rw [if_pos ⟨by omega, by simp [roomMax]; omega, by simp [roomMax]; omega⟩]; rfl
  simp only [hm, Option.bind_some, pfit_ok F (by omega : 100 ≤ F)]
  have := scaled_loop F hF b t hb.len (fun v4 => (poly_Fit F v4).bind fun x24 => some (v4, x24)) ht1 ht2 ht3 b [] (List.replicate b.length (api_Term.mk (Arr.rep 12 0) 0)) F rfl (by simp) (by have := hb.len; omega) (fun x hx => (hb.coef hx).1) (fun x hx => hb.exps hx)
  simp only [List.map_nil, List.nil_append, List.length_nil, Int.natCast_zero, pfit_ok F (by omega : 100 ≤ F), Option.bind_some] at this
  rcases this with h | ⟨⟨x, hx, hc⟩, h⟩
  · exact ⟨_, h, fun _ => rfl⟩
  · have hf : fitB (b.map (mulT · t)) = false := by
      cases hf : fitB (b.map (mulT · t)) with
      | false => rfl
      | true =>
        have := ((okT_iff _).1 (((fit_iff _).1 hf).2.1 (mulT x t) (List.mem_map.2 ⟨x, hx, rfl⟩))).2.1
        exact absurd (show x.Coef * t.Coef ≤ 1099511627776 from this) (by omega)
    rw [hf]
    exact ⟨_, h, fun e => by cases e⟩

def prodL (a b : List api_Term) : List api_Term := a.flatMap (fun t => b.map (mulT · t))
theorem prodL_append (a a' b : List api_Term) : prodL (a ++ a') b = prodL a b ++ prodL a' b := by simp [prodL]
theorem prodL_cons (t : api_Term) (a b : List api_Term) : prodL (t :: a) b = b.map (mulT · t) ++ prodL a b := by simp [prodL]
theorem map_pos {b : List api_Term} {t : api_Term} (hb : Pos b) (ht : 1 ≤ t.Coef) : Pos (b.map (mulT · t)) := fun x hx => by
  obtain ⟨y, hy, rfl⟩ := List.mem_map.1 hx
  have := hb y hy
  show 1 ≤ y.Coef * t.Coef
  have := Int.mul_le_mul (show (1 : Int) ≤ y.Coef by omega) ht (by omega) (by omega)
  omega
theorem map_srt {b : List api_Term} (t : api_Term) (hb : Srt b) : Srt (b.map (mulT · t)) := by
  refine List.Pairwise.map _ (fun x y h => ?_) hb
  show ltL (List.zipWith _ _ _) (List.zipWith _ _ _) = true
  rw [ltL_add _ _ _ (by rw [key_len, key_len]) (by rw [key_len, key_len])]; exact h
theorem map_nn {b : List api_Term} {t : api_Term} (hb : NN b) (ht : ∀ e ∈ key t, 0 ≤ e) : NN (b.map (mulT · t)) := fun x hx => by
  obtain ⟨y, hy, rfl⟩ := List.mem_map.1 hx
  have h1 := hb y hy
  intro e he
  have : ∀ (us vs : List Int), (∀ e ∈ us, 0 ≤ e) → (∀ e ∈ vs, 0 ≤ e) → ∀ e ∈ List.zipWith (· + ·) us vs, 0 ≤ e := by
    intro us
    induction us with
    | nil => intro vs _ _ e he; simp at he
    | cons u us ih =>
      intro vs hu hv e he
      cases vs with
      | nil => simp at he
      | cons v vs =>
        rw [List.zipWith_cons_cons] at he
        rcases List.mem_cons.1 he with rfl | he
        · have := hu u List.mem_cons_self; have := hv v List.mem_cons_self; omega
        · exact ih vs (fun e he => hu e (List.mem_cons_of_mem _ he)) (fun e he => hv e (List.mem_cons_of_mem _ he)) e he
  exact this _ _ h1 ht e he
theorem prod_pos : ∀ {a b : List api_Term}, Pos a → Pos b → Pos (prodL a b)
  | [], b, _, _ => fun x hx => by cases hx
  | t :: a, b, ha, hb => by
    rw [prodL_cons]
    exact (map_pos hb (ha t List.mem_cons_self)).append (prod_pos ha.tail hb)
theorem prod_nn : ∀ {a b : List api_Term}, NN a → NN b → NN (prodL a b)
  | [], b, _, _ => fun x hx => by cases hx
  | t :: a, b, ha, hb => by
    rw [prodL_cons]
    exact (map_nn hb (ha t List.mem_cons_self)).append (prod_nn ha.tail hb)

theorem mul_loop (F : Nat) (hF : 1000 ≤ F) {a b : List api_Term} (ha : Good a) (hb : Good b) : ∀ (l pre : List api_Term) (n : Nat), a = pre ++ l → l.length < n → fitB (norm (prodL pre b)) = true →
    poly_Mul_L0 F a b n (norm (prodL pre b)) (pre.length : Int) = some (Res (prodL a b))
  | [], pre, n, h, hn, hf => by
    cases n with
    | zero => omega
    | succ n =>
      rw [poly_Mul_L0]
      simp only [List.append_nil] at h
      subst h
      simp [res_yes hf]
  | t :: l, pre, n, h, hn, hf => by
    cases n with
    | zero => omega
    | succ n =>
      have hla := ha.len
      have hlen : pre.length < a.length := by rw [h]; simp
      have hidx : idx a (pre.length : Int) = some t := by rw [h]; exact idx_mid _ _ _
      have htm : t ∈ a := by rw [h]; simp
      have pp : Pos pre := fun x hx => ha.pos x (by rw [h]; exact List.mem_append_left _ hx)
      have pl : Pos l := fun x hx => ha.pos x (by rw [h]; exact List.mem_append_right _ (List.mem_cons_of_mem _ hx))
      obtain ⟨t1, t2⟩ := ha.coef htm
      have hP := prod_pos ha.pos hb.pos
      have hm := map_pos hb.pos t1
      have eP : prodL a b = prodL pre b ++ (b.map (mulT · t) ++ prodL l b) := by rw [h, prodL_append, prodL_cons]
      have eP2 : prodL (pre ++ [t]) b = prodL pre b ++ b.map (mulT · t) := by rw [prodL_append, prodL_cons]; simp [prodL]
      obtain ⟨q, hs, hq⟩ := scaled_ok F hF hb t1 t2 (ha.exps htm)
      rw [poly_Mul_L0]
      have hlt : decide ((pre.length : Int) < (a.length : Int)) = true := by simp; omega
      rw [hlt]
      simp only [cond_true, hidx, Option.bind_some, hs]
      cases hfm : fitB (b.map (mulT · t)) with
      | false =>
        have : fitB (norm (prodL a b)) = false := by
          cases hfa : fitB (norm (prodL a b)) with
          | false => rfl
          | true =>
            have := fit_sub (l := b.map (mulT · t)) (r := prodL pre b ++ prodL l b) hm hP ((prod_pos pp hb.pos).append (prod_pos pl hb.pos)) (fun k => by
              rw [eP]; simp only [coef, dot_append]; omega) hfa
            rw [norm_eq hm (map_srt t hb.srt) hm (fun _ => rfl), hfm] at this; cases this
        rw [res_no this]; rfl
      | true =>
        have eq := hq hfm; subst eq
        simp only [Bool.not_true, cond_false, add_ok F hF hf hfm, Option.bind_some]
        have e2 : Res (norm (prodL pre b) ++ b.map (mulT · t)) = Res (prodL (pre ++ [t]) b) := by
          refine Res_congr ((norm_pos (prod_pos pp hb.pos)).append hm) (by rw [eP2]; exact (prod_pos pp hb.pos).append hm) (fun k => ?_)
          rw [eP2]; simp only [coef, dot_append, norm_dot]
        rw [e2]
        cases hfr : fitB (norm (prodL (pre ++ [t]) b)) with
        | true =>
          rw [res_yes hfr]
          simp only [bne_self_eq_false, cond_false, wrapS _ (show pre.length < 9223372036854775807 by omega)]
          have ih := mul_loop F hF ha hb l (pre ++ [t]) n (by simp [h]) (by simp at hn; omega) hfr
          simpa using ih
        | false =>
          rw [res_no hfr]
          have : fitB (norm (prodL a b)) = false := by
            cases hfa : fitB (norm (prodL a b)) with
            | false => rfl
            | true =>
              have := fit_sub (l := prodL (pre ++ [t]) b) (r := prodL l b) (by rw [eP2]; exact (prod_pos pp hb.pos).append hm) hP (prod_pos pl hb.pos) (fun k => by
                rw [eP, eP2]; simp only [coef, dot_append]; omega) hfa
              rw [hfr] at this; cases this
          rw [res_no this]; rfl
theorem mul_ok (F : Nat) (hF : 1000 ≤ F) {a b : List api_Term} (ha : Good a) (hb : Good b) : poly_Mul F a b = some (Res (prodL a b)) := by
  have := mul_loop F hF ha hb a [] F rfl (by have := ha.len; omega) rfl
  simpa [poly_Mul, prodL, norm] using this

theorem add_good {a b : List api_Term} (ha : Good a) (hb : Good b) : Good (Res (a ++ b)).1 := res_good (ha.nn.append hb.nn)
theorem mul_good {a b : List api_Term} (ha : Good a) (hb : Good b) : Good (Res (prodL a b)).1 := res_good (prod_nn ha.nn hb.nn)

/-! A product's numbers. -/
def pls (i j : List Int) : List Int := List.zipWith (· + ·) i j
theorem pls_comm : ∀ (i j : List Int), pls i j = pls j i
  | [], j => by simp [pls]
  | _ :: _, [] => by simp [pls]
  | a :: i, b :: j => by
    have := pls_comm i j
    simp only [pls, List.zipWith_cons_cons] at this ⊢
    rw [this, Int.add_comm]
theorem pls_assoc : ∀ (i j k : List Int), pls (pls i j) k = pls i (pls j k)
  | [], j, k => by simp [pls]
  | _ :: _, [], k => by simp [pls]
  | _ :: _, _ :: _, [] => by simp [pls]
  | a :: i, b :: j, c :: k => by
    have := pls_assoc i j k
    simp only [pls, List.zipWith_cons_cons] at this ⊢
    rw [this, Int.add_assoc]
theorem dot_map (g : List Int → Int) (t : api_Term) : ∀ (b : List api_Term), dot g (b.map (mulT · t)) = t.Coef * dot (fun i => g (pls i (key t))) b
  | [] => by simp [dot]
  | x :: b => by
    simp only [List.map_cons, dot, dot_map g t b]
    rw [show key (mulT x t) = pls (key x) (key t) from rfl, show (mulT x t).Coef = x.Coef * t.Coef from rfl, Int.mul_add]
    congr 1
    rw [Int.mul_comm x.Coef, Int.mul_assoc]
theorem dot_prod (g : List Int → Int) (b : List api_Term) : ∀ (a : List api_Term), dot g (prodL a b) = dot (fun j => dot (fun i => g (pls i j)) b) a
  | [] => rfl
  | t :: a => by rw [prodL_cons, dot_append, dot_map, dot_prod g b a]; rfl
theorem dot_zero : ∀ (a : List api_Term), dot (fun _ => 0) a = 0
  | [] => rfl
  | t :: a => by simp [dot, dot_zero a]
theorem dot_plus (g h : List Int → Int) : ∀ (a : List api_Term), dot (fun j => g j + h j) a = dot g a + dot h a
  | [] => rfl
  | t :: a => by simp only [dot, dot_plus g h a, Int.mul_add]; omega
theorem dot_times (c : Int) (g : List Int → Int) : ∀ (a : List api_Term), dot (fun j => c * g j) a = c * dot g a
  | [] => by simp [dot]
  | t :: a => by
    simp only [dot, dot_times c g a, Int.mul_add]
    rw [← Int.mul_assoc, Int.mul_comm t.Coef, Int.mul_assoc]
theorem dot_swap (h : List Int → List Int → Int) (b : List api_Term) : ∀ (a : List api_Term), dot (fun j => dot (fun i => h i j) b) a = dot (fun i => dot (fun j => h i j) a) b
  | [] => by simp only [dot]; exact (dot_zero b).symm
  | t :: a => by
    simp only [dot, dot_swap h b a]
    rw [dot_plus, dot_times]
theorem prod_comm (g : List Int → Int) (a b : List api_Term) : dot g (prodL a b) = dot g (prodL b a) := by
  rw [dot_prod, dot_prod, dot_swap]
  congr 1; funext i; congr 1; funext j; rw [pls_comm]
theorem prod_assoc (g : List Int → Int) (a b c : List api_Term) : dot g (prodL (prodL a b) c) = dot g (prodL a (prodL b c)) := by
  rw [dot_prod, dot_prod, dot_prod]
  congr 1; funext j; rw [dot_prod, dot_swap]
  rw [dot_swap]
  congr 1; funext i; congr 1; funext k; rw [pls_assoc]
theorem prod_norm_left (g : List Int → Int) (a b : List api_Term) : dot g (prodL (norm a) b) = dot g (prodL a b) := by
  rw [dot_prod, norm_dot, ← dot_prod]
theorem prod_norm_right (g : List Int → Int) (a b : List api_Term) : dot g (prodL a (norm b)) = dot g (prodL a b) := by
  rw [prod_comm, prod_norm_left, prod_comm]
end Go.Proofs.Ytfbkgjmpadknfaa.M
