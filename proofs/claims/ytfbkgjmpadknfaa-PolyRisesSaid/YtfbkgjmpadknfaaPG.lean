/-
  Sums of terms: the greater of two.
-/
import Derived.Test.YtfbkgjmpadknfaaPF
namespace Go.Proofs.Ytfbkgjmpadknfaa.M
open Go.Proofs.YtfbkgjmpadknfaaW.Ah Go.Proofs.Ytfbkgjmpadknfaa
set_option linter.unusedVariables false
set_option linter.unusedSimpArgs false

def maxT (s t : api_Term) : api_Term := { s with Coef := if s.Coef < t.Coef then t.Coef else s.Coef }
def mx (x y : Int) : Int := if x < y then y else x
theorem coef_below {a b : api_Term} {l : List api_Term} (hb : Srt (b :: l)) (hab : ltL (key a) (key b) = true) : coef (b :: l) (key a) = 0 := by
  refine coef_none (fun x hx => ?_)
  rcases List.mem_cons.1 hx with rfl | hx
  · exact fun e => ltL_ne hab e.symm
  · exact fun e => ltL_ne (ltL_trans hab ((List.pairwise_cons.1 hb).1 x hx)) e.symm
theorem coef_tail {t : api_Term} {l : List api_Term} (h : Srt (t :: l)) : coef l (key t) = 0 := by
  refine coef_none (fun s hs => ?_)
  have := (List.pairwise_cons.1 h).1 s hs
  exact fun e => ltL_ne this e.symm
theorem mx_pos {x y : Int} (h : 1 ≤ x) : 1 ≤ mx x y := by unfold mx; split <;> omega
theorem mx_comm (x y : Int) : mx x y = mx y x := by unfold mx; split <;> split <;> omega
theorem max_pos : ∀ (a b : List api_Term), Pos a → Pos b → Pos (mrg maxT a b)
  | [], b, _, hb => by simp only [mrg]; exact hb
  | s :: a, [], ha, _ => by simp only [mrg]; exact ha
  | s :: a, t :: b, ha, hb => by
    have hs := ha s List.mem_cons_self
    have ht := hb t List.mem_cons_self
    rw [mrg]
    split
    · intro x hx
      rcases List.mem_cons.1 hx with rfl | hx
      · exact hs
      · exact max_pos a (t :: b) ha.tail hb x hx
    · split
      · intro x hx
        rcases List.mem_cons.1 hx with rfl | hx
        · exact ht
        · exact max_pos (s :: a) b ha hb.tail x hx
      · intro x hx
        rcases List.mem_cons.1 hx with rfl | hx
        · exact mx_pos hs
        · exact max_pos a b ha.tail hb.tail x hx
termination_by a b => a.length + b.length
theorem mrg_nn {one : api_Term → api_Term → api_Term} (h1 : ∀ s t, key (one s t) = key s) {a b : List api_Term} (ha : NN a) (hb : NN b) : NN (mrg one a b) := fun x hx e he => by
  rcases mrg_keys h1 a b x hx with ⟨y, hy, e'⟩ | ⟨y, hy, e'⟩
  · rw [e'] at he; exact ha y hy e he
  · rw [e'] at he; exact hb y hy e he
theorem coef_max (k : List Int) : ∀ (a b : List api_Term), Srt a → Srt b → Pos a → Pos b → coef (mrg maxT a b) k = mx (coef a k) (coef b k)
  | [], b, _, _, _, pb => by
    have := coef_nonneg pb k
    simp only [mrg, mx]
    show coef b k = if (0 : Int) < coef b k then coef b k else 0
    split <;> omega
  | s :: a, [], _, _, pa, _ => by
    have := coef_nonneg pa k
    simp only [mrg, mx]
    show coef (s :: a) k = if coef (s :: a) k < 0 then 0 else coef (s :: a) k
    rw [if_neg (by omega)]
  | s :: a, t :: b, ha, hb, pa, pb => by
    have hlen : (key s).length = (key t).length := by rw [key_len, key_len]
    have ha1 := (List.pairwise_cons.1 ha).2
    have hb1 := (List.pairwise_cons.1 hb).2
    have hs := pa s List.mem_cons_self
    have ht := pb t List.mem_cons_self
    rw [mrg]
    split
    · rename_i c
      have c := (cmpL_lt hlen).1 c
      rw [coef_cons, coef_max k a (t :: b) ha1 hb pa.tail pb, coef_cons s a k]
      by_cases e : key s = k
      · subst e
        rw [coef_tail ha, coef_below hb c]; simp [mx]; omega
      · simp [e]
    · rename_i c0
      split
      · rename_i c
        have c := (cmpL_gt hlen).1 c
        rw [coef_cons, coef_max k (s :: a) b ha hb1 pa pb.tail, coef_cons t b k]
        by_cases e : key t = k
        · subst e
          rw [coef_tail hb, coef_below ha c]; simp [mx]; omega
        · simp [e]
      · rename_i c1
        have ek := cmpL_eq hlen c0 c1
        rw [coef_cons, coef_max k a b ha1 hb1 pa.tail pb.tail, coef_cons s a k, coef_cons t b k, ← ek]
        show (if key s = k then (maxT s t).Coef else 0) + _ = _
        by_cases e : key s = k
        · subst e
          have : coef b (key s) = 0 := by rw [ek]; exact coef_tail hb
          rw [coef_tail ha, this]; simp [mx, maxT]
        · simp [e]
termination_by a b => a.length + b.length

theorem max_le {g : List Int → Int} (hg : ∀ k, 0 ≤ g k) : ∀ (a b : List api_Term), Pos a → Pos b → dot g (mrg maxT a b) ≤ dot g a + dot g b ∧ dot g a ≤ dot g (mrg maxT a b) ∧ dot g b ≤ dot g (mrg maxT a b)
  | [], b, _, hb => by
    have := dot_nonneg hg hb
    simp only [mrg, dot]; omega
  | s :: a, [], ha, _ => by
    have := dot_nonneg hg ha
    simp only [mrg]; simp only [dot] at this ⊢; omega
  | s :: a, t :: b, ha, hb => by
    have hlen : (key s).length = (key t).length := by rw [key_len, key_len]
    have hs := ha s List.mem_cons_self
    have ht := hb t List.mem_cons_self
    have q1 := Int.mul_nonneg (show 0 ≤ s.Coef by omega) (hg (key s))
    have q2 := Int.mul_nonneg (show 0 ≤ t.Coef by omega) (hg (key t))
    rw [mrg]
    split
    · have := max_le hg a (t :: b) ha.tail hb
      simp only [dot] at this ⊢; omega
    · rename_i c0
      split
      · have := max_le hg (s :: a) b ha hb.tail
        simp only [dot] at this ⊢; omega
      · rename_i c1
        have ek := cmpL_eq hlen c0 c1
        have := max_le hg a b ha.tail hb.tail
        rw [← ek] at q2
        simp only [dot, maxT]
        rw [show key { s with Coef := if s.Coef < t.Coef then t.Coef else s.Coef } = key s from rfl, ← ek]
        split
        · rename_i hlt
          have := Int.mul_le_mul_of_nonneg_right (show s.Coef ≤ t.Coef by omega) (hg (key s))
          omega
        · rename_i hlt
          have := Int.mul_le_mul_of_nonneg_right (show t.Coef ≤ s.Coef by omega) (hg (key s))
          omega
termination_by a b => a.length + b.length

def MaxR (a b : List api_Term) : List api_Term × Int := if fitB (mrg maxT a b) = true then (mrg maxT a b, 0) else ([], 17)
theorem max_ok (F : Nat) (hF : 1000 ≤ F) {a b : List api_Term} (ha : fitB a = true) (hb : fitB b = true) : poly_Max F a b = some (MaxR a b) := by
  have la := ((fit_iff a).1 ha).1
  have lb := ((fit_iff b).1 hb).1
  unfold poly_Max
  rw [merged_ok F hF a b (fun y0 y1 => poly_greater F y0 y1) maxT (fun s hs t ht => rfl) (by omega)]
  simp only [Option.bind_some, checked_ok F (by omega : 100 ≤ F), MaxR]
theorem max_srt {a b : List api_Term} (ha : Srt a) (hb : Srt b) : Srt (mrg maxT a b) := mrg_srt (one := maxT) (fun _ _ => rfl) a b ha hb
theorem max_comm {a b : List api_Term} (ha : Good a) (hb : Good b) : MaxR a b = MaxR b a := by
  have : mrg maxT a b = mrg maxT b a := sum_ext (max_srt ha.srt hb.srt) (max_srt hb.srt ha.srt) (max_pos _ _ ha.pos hb.pos) (max_pos _ _ hb.pos ha.pos) (fun k => by
    rw [coef_max k a b ha.srt hb.srt ha.pos hb.pos, coef_max k b a hb.srt ha.srt hb.pos ha.pos, mx_comm])
  unfold MaxR; rw [this]
theorem max_self {a : List api_Term} (ha : Good a) : MaxR a a = (a, 0) := by
  have : mrg maxT a a = a := sum_ext (max_srt ha.srt ha.srt) ha.srt (max_pos _ _ ha.pos ha.pos) ha.pos (fun k => by
    rw [coef_max k a a ha.srt ha.srt ha.pos ha.pos]; simp [mx])
  unfold MaxR; rw [this, ha.fit]; rfl
theorem max_good {a b : List api_Term} (ha : Good a) (hb : Good b) : Good (MaxR a b).1 := by
  unfold MaxR; split
  · rename_i hf; exact ⟨hf, mrg_nn (one := maxT) (fun _ _ => rfl) ha.nn hb.nn⟩
  · exact good_nil
theorem max_zero {a b : List api_Term} (h : (MaxR a b).2 = 0) : (MaxR a b).1 = mrg maxT a b := by
  unfold MaxR at h ⊢
  split
  · rfl
  · rename_i c; rw [if_neg c] at h; cases h

theorem dot_mono {g h : List Int → Int} (hg : ∀ k, g k ≤ h k) : ∀ {p : List api_Term}, Pos p → dot g p ≤ dot h p
  | [], _ => by simp [dot]
  | t :: p, hp => by
    have h1 := hp t List.mem_cons_self
    have := Int.mul_le_mul_of_nonneg_left (hg (key t)) (show 0 ≤ t.Coef by omega)
    have := dot_mono hg hp.tail
    simp only [dot]; omega
theorem mon_mono {l m : List Int} (h : ∀ i, vv l i ≤ vv m i) : ∀ (es : List Int) (i : Nat), mon l i es ≤ mon m i es
  | [], i => by simp [mon]
  | e :: es, i => Int.mul_le_mul (pw_mono (vv_nonneg l i) (h i) _) (mon_mono h es (i + 1)) (mon_nonneg l es _) (pw_nonneg (vv_nonneg m i) _)
theorem vv_set (l : List Int) (j : Nat) (x : Int) (hx : l.getD j 0 ≤ x) (i : Nat) : vv l i ≤ vv (l.set j x) i := by
  unfold vv
  by_cases e : i = j
  · subst e
    by_cases c : i < l.length
    · rw [show (l.set i x).getD i 0 = x by simp [c]]
      split <;> split <;> omega
    · rw [List.set_eq_of_length_le (by omega)]; exact Int.le_refl _
  · rw [show (l.set j x).getD i 0 = l.getD i 0 by simp [List.getElem?_set_ne (fun h => e h.symm)]]; exact Int.le_refl _
end Go.Proofs.Ytfbkgjmpadknfaa.M
