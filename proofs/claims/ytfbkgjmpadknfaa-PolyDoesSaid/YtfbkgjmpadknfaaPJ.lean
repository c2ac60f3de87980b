/-
  Sums of terms: values of products, and parts.
-/
import Derived.Test.YtfbkgjmpadknfaaPY
namespace Go.Proofs.Ytfbkgjmpadknfaa.M
open Go.Proofs.YtfbkgjmpadknfaaW.Ah Go.Proofs.Ytfbkgjmpadknfaa
set_option linter.unusedVariables false
set_option linter.unusedSimpArgs false

theorem dot_congr {g h : List Int → Int} : ∀ {p : List api_Term}, (∀ t ∈ p, g (key t) = h (key t)) → dot g p = dot h p
  | [], _ => rfl
  | t :: p, hp => by
    simp only [dot]
    rw [hp t List.mem_cons_self, dot_congr (fun s hs => hp s (List.mem_cons_of_mem _ hs))]
theorem mon_pls (l : List Int) : ∀ (i j : List Int) (n : Nat), i.length = j.length → (∀ e ∈ i, 0 ≤ e) → (∀ e ∈ j, 0 ≤ e) → mon l n (pls i j) = mon l n i * mon l n j
  | [], [], n, _, _, _ => by simp [pls, mon]
  | [], _ :: _, n, h, _, _ => by simp at h
  | _ :: _, [], n, h, _, _ => by simp at h
  | a :: i, b :: j, n, h, hi, hj => by
    have ih := mon_pls l i j (n + 1) (by simpa using h) (fun e he => hi e (List.mem_cons_of_mem _ he)) (fun e he => hj e (List.mem_cons_of_mem _ he))
    have ha := hi a List.mem_cons_self
    have hb := hj b List.mem_cons_self
    show pw (vv l n) (a + b).toNat * mon l (n + 1) (pls i j) = pw (vv l n) a.toNat * mon l (n + 1) i * (pw (vv l n) b.toNat * mon l (n + 1) j)
    rw [ih, show (a + b).toNat = a.toNat + b.toNat by omega, pw_add]
    simp only [Int.mul_assoc, Int.mul_left_comm, Int.mul_comm]
theorem val_prod {a b : List api_Term} (ha : NN a) (hb : NN b) (l : List Int) : val (prodL a b) l = val a l * val b l := by
  unfold val
  rw [dot_prod]
  rw [dot_congr (h := fun j => dot (g0 l) b * g0 l j) (fun t ht => ?_), dot_times, Int.mul_comm]
  show dot (fun i => g0 l (pls i (key t))) b = dot (g0 l) b * g0 l (key t)
  rw [dot_congr (h := fun i => g0 l (key t) * g0 l i) (fun s hs => ?_), dot_times, Int.mul_comm]
  show g0 l (pls (key s) (key t)) = _
  rw [show g0 l (pls (key s) (key t)) = _ from mon_pls l _ _ 0 (by rw [key_len, key_len]) (hb s hs) (ha t ht), Int.mul_comm]
theorem val_nonneg {p : List api_Term} (h : Pos p) (l : List Int) : 0 ≤ val p l := dot_nonneg (g0_nonneg l) h

theorem splL_yes (u : List Int) (i : Nat) : ∀ (l out : List api_Term) (k : Int), Srt l → Pos l → (splL u i k out l).2.2 = true →
    (splL u i k out l).2.1 = out ++ l.filter (fun t => decide (key t ≠ u)) ∧ (splL u i k out l).1 = (if coef l u = 0 then k else coef l u) ∧ (∀ t ∈ l, key t ≠ u → ¬ 0 < ex t i) ∧ ((splL u i k out l).1 = k ∨ ∃ t ∈ l, (splL u i k out l).1 = t.Coef)
  | [], out, k, _, _, _ => by simp [splL, coef, dot]
  | t :: l, out, k, hs, hp, h => by
    have hs1 := (List.pairwise_cons.1 hs).2
    have ht := hp t List.mem_cons_self
    rw [splL] at h ⊢
    by_cases c : key t = u
    · rw [if_pos c] at h ⊢
      obtain ⟨h1, h2, h3, h4⟩ := splL_yes u i l out t.Coef hs1 hp.tail h
      have h0 : coef l u = 0 := by rw [← c]; exact coef_tail hs
      rw [if_pos h0] at h2
      refine ⟨by rw [h1]; simp [c], ?_, fun s hs' hn => ?_, .inr ⟨t, List.mem_cons_self, h2⟩⟩
      · rw [h2, coef_cons, if_pos c, h0, if_neg (by omega)]; omega
      · rcases List.mem_cons.1 hs' with rfl | hs'
        · exact absurd c hn
        · exact h3 s hs' hn
    · rw [if_neg c] at h ⊢
      by_cases d : 0 < ex t i
      · rw [if_pos d] at h; cases h
      · rw [if_neg d] at h ⊢
        obtain ⟨h1, h2, h3, h4⟩ := splL_yes u i l (out ++ [t]) k hs1 hp.tail h
        refine ⟨by rw [h1]; simp [c], ?_, fun s hs' hn => ?_, ?_⟩
        · rw [h2, coef_cons, if_neg c]; simp
        · rcases List.mem_cons.1 hs' with rfl | hs'
          · exact d
          · exact h3 s hs' hn
        · rcases h4 with h4 | ⟨s, hs', e⟩
          · exact .inl h4
          · exact .inr ⟨s, List.mem_cons_of_mem _ hs', e⟩
theorem coef_filter (u k : List Int) : ∀ (p : List api_Term), coef (p.filter (fun t => decide (key t ≠ u))) k = if k = u then 0 else coef p k
  | [] => by simp [coef, dot]
  | t :: p => by
    have ih := coef_filter u k p
    by_cases c : key t = u
    · rw [List.filter_cons_of_neg (by simpa using c), ih, coef_cons]
      by_cases e : k = u
      · rw [if_pos e, if_pos e]
      · rw [if_neg e, if_neg e, if_neg (by rw [c]; exact fun h => e h.symm)]; omega
    · rw [List.filter_cons_of_pos (by simpa using c), coef_cons, ih, coef_cons]
      by_cases e : k = u
      · rw [if_pos e, if_pos e, if_neg (by rw [e]; exact c)]; rfl
      · rw [if_neg e, if_neg e]
theorem pls_zero : ∀ (a : List Int), pls a (List.replicate a.length 0) = a
  | [] => rfl
  | x :: a => by
    have := pls_zero a
    simp only [pls, List.length_cons, List.replicate_succ, List.zipWith_cons_cons] at this ⊢
    rw [this, Int.add_zero]

/-- The part that a variable alone makes. -/
theorem part_ok {k : Int} (i : Nat) (h0 : 0 ≤ k) (h1 : k ≤ 1099511627776) :
    (Res (prodL (NumR k).1 [unitT i])).2 = 0 ∧ Pos (Res (prodL (NumR k).1 [unitT i])).1 ∧ ∀ j, coef (Res (prodL (NumR k).1 [unitT i])).1 j = if j = key (unitT i) then k else 0 := by
  by_cases c : k < 1
  · have : (NumR k).1 = [] := by unfold NumR; rw [if_neg (by omega), if_pos c]
    rw [this]
    refine ⟨rfl, fun (t : api_Term) (ht : t ∈ []) => (List.not_mem_nil ht).elim, fun j => ?_⟩
    have : k = 0 := by omega
    subst this
    show (0 : Int) = _
    split <;> rfl
  · have : (NumR k).1 = [⟨Arr.rep 12 0, k⟩] := by unfold NumR; rw [if_neg (by omega), if_neg c]
    rw [this]
    have e : prodL [⟨Arr.rep 12 0, k⟩] [unitT i] = [{ unitT i with Coef := k }] := by
      rw [prodL_cons]
      show [mulT (unitT i) ⟨Arr.rep 12 0, k⟩] = _
      congr 1
      refine term_ext ?_ ?_
      · show pls (key (unitT i)) (List.replicate 12 0) = key (unitT i)
        have := pls_zero (key (unitT i))
        rwa [key_len] at this
      · show 1 * k = k; omega
    have hg := good_unit i k (by omega) h1
    rw [e]
    have hn : norm [{ unitT i with Coef := k }] = [{ unitT i with Coef := k }] := hg.norm
    have hr : Res [{ unitT i with Coef := k }] = ([{ unitT i with Coef := k }], 0) := by rw [res_yes (by rw [hn]; exact hg.fit), hn]
    rw [hr]
    refine ⟨rfl, hg.pos, fun j => ?_⟩
    rw [coef_cons]
    show (if key (unitT i) = j then k else 0) + 0 = _
    by_cases d : key (unitT i) = j
    · rw [if_pos d, if_pos d.symm]; omega
    · rw [if_neg d, if_neg (fun h => d h.symm)]; rfl

theorem filter_good {p : List api_Term} (hp : Good p) (f : api_Term → Bool) : Good (p.filter f) := by
  refine ⟨(fit_iff _).2 ⟨Nat.le_trans (List.length_filter_le _ _) hp.len, fun t ht => ?_, hp.srt.filter _⟩, fun t ht => hp.nn t (List.mem_filter.1 ht).1⟩
  exact ((fit_iff p).1 hp.fit).2.1 t (List.mem_filter.1 ht).1

/-- What a split gives makes the sum again. -/
theorem split_back {p : List api_Term} (hp : Good p) {v : Int} (hv : (VarR v).2 = 0) (h : (SplitR p v).2.2 = true) :
    (Res (prodL (NumR (SplitR p v).1).1 (VarR v).1)).2 = 0 ∧ Res ((Res (prodL (NumR (SplitR p v).1).1 (VarR v).1)).1 ++ (SplitR p v).2.1) = (p, 0) := by
  unfold VarR at hv
  by_cases c : v < 0 ∨ 12 ≤ v
  · rw [if_pos c] at hv; cases hv
  · unfold SplitR at h ⊢
    rw [if_neg c] at h ⊢
    have hvar : (VarR v).1 = [unitT v.toNat] := by unfold VarR; rw [if_neg c]
    rw [hvar]
    obtain ⟨h1, h2, h3, h4⟩ := splL_yes (key (unitT v.toNat)) v.toNat p [] 0 hp.srt hp.pos h
    rw [List.nil_append] at h1
    have hk : 0 ≤ (splL (key (unitT v.toNat)) v.toNat 0 [] p).1 ∧ (splL (key (unitT v.toNat)) v.toNat 0 [] p).1 ≤ 1099511627776 := by
      rcases h4 with h4 | ⟨t, ht, e⟩
      · omega
      · have := hp.coef ht; omega
    have hk2 : (splL (key (unitT v.toNat)) v.toNat 0 [] p).1 = coef p (key (unitT v.toNat)) := by rw [h2]; split <;> omega
    obtain ⟨p1, p2, p3⟩ := part_ok v.toNat hk.1 hk.2
    refine ⟨p1, ?_⟩
    rw [h1]
    have hn : norm ((Res (prodL (NumR (splL (key (unitT v.toNat)) v.toNat 0 [] p).1).1 [unitT v.toNat])).1 ++ p.filter (fun t => decide (key t ≠ key (unitT v.toNat)))) = p := by
      refine norm_eq (p2.append (filter_good hp _).pos) hp.srt hp.pos (fun k => ?_)
      have := dot_append (ind k) (Res (prodL (NumR (splL (key (unitT v.toNat)) v.toNat 0 [] p).1).1 [unitT v.toNat])).1 (p.filter (fun t => decide (key t ≠ key (unitT v.toNat))))
      show coef p k = dot _ _
      rw [this]
      have q1 := p3 k
      have q2 := coef_filter (key (unitT v.toNat)) k p
      simp only [coef] at q1 q2
      rw [q1, q2, hk2]
      by_cases e : k = key (unitT v.toNat)
      · rw [if_pos e, if_pos e, e]; show coef p _ = _; omega
      · rw [if_neg e, if_neg e]; show coef p _ = 0 + coef p k; omega
    rw [res_yes (by rw [hn]; exact hp.fit), hn]
theorem split_good {p : List api_Term} (hp : Good p) (v : Int) : Good (SplitR p v).2.1 := by
  unfold SplitR; split
  · exact hp
  · cases h : (splL (key (unitT v.toNat)) v.toNat 0 [] p).2.2 with
    | true =>
      rw [(splL_yes _ _ p [] 0 hp.srt hp.pos h).1]
      exact filter_good hp _
    | false =>
      have : ∀ (u : List Int) (i : Nat) (l out : List api_Term) (k : Int), (splL u i k out l).2.2 = false → (splL u i k out l).2.1 = [] := by
        intro u i l
        induction l with
        | nil => intro out k h; simp [splL] at h
        | cons t l ih =>
          intro out k h
          rw [splL] at h ⊢
          split
          · rename_i c; rw [if_pos c] at h; exact ih _ _ h
          · rename_i c; rw [if_neg c] at h
            split
            · rfl
            · rename_i d; rw [if_neg d] at h; exact ih _ _ h
      rw [this _ _ _ _ _ h]; exact good_nil
theorem unit_has (i : Nat) (hi : i < 12) {t : api_Term} (h : key t = key (unitT i)) : 0 < ex t i := by
  unfold ex; rw [h, key_unit]
  simp [hi]
/-- The rest does not have the variable. -/
theorem split_has {p : List api_Term} (hp : Good p) (v : Int) (h : (SplitR p v).2.2 = true) : hasR (SplitR p v).2.1 v = false := by
  unfold SplitR at h ⊢
  by_cases c : v < 0 ∨ 12 ≤ v
  · have : ¬ (0 ≤ v ∧ v < 12) := by omega
    simp [hasR, this]
  · rw [if_neg c] at h ⊢
    obtain ⟨h1, _, h3, _⟩ := splL_yes (key (unitT v.toNat)) v.toNat p [] 0 hp.srt hp.pos h
    rw [h1]
    unfold hasR
    rw [Bool.and_eq_false_iff]; right
    rw [List.any_eq_false]
    intro t ht
    rw [List.nil_append] at ht
    obtain ⟨m1, m2⟩ := List.mem_filter.1 ht
    have := h3 t m1 (by simpa using m2)
    simpa using this
end Go.Proofs.Ytfbkgjmpadknfaa.M
