/-
  Sums of terms: two rows made one, and the form that each sum has.
-/
import Derived.Test.YtfbkgjmpadknfaaPB
namespace Go.Proofs.Ytfbkgjmpadknfaa.M
open Go.Proofs.YtfbkgjmpadknfaaW.Ah Go.Proofs.Ytfbkgjmpadknfaa
set_option linter.unusedVariables false
set_option linter.unusedSimpArgs false

theorem app_ok {α : Type} {b : Nat} {xs ys : List α} (h : (xs.length + ys.length) * b ≤ roomMax) (hb : 1 ≤ b) : appM b xs ys = some (xs ++ ys) := by
  unfold appM
  rw [if_pos ⟨h, by
    have := Nat.mul_le_mul_left (xs.length + ys.length) hb
    omega⟩]
theorem sub_tail {α : Type} (t : α) (l : List α) : subM (t :: l) 1 ((t :: l).length : Int) = some l := by
  unfold subM
  rw [if_pos ⟨by omega, by simp; omega, by simp⟩]
  simp

/-- The sum of a function's values, by the terms. -/
def dot (g : List Int → Int) : List api_Term → Int
  | [] => 0
  | t :: l => t.Coef * g (key t) + dot g l
theorem dot_append (g : List Int → Int) : ∀ (a b : List api_Term), dot g (a ++ b) = dot g a + dot g b
  | [], b => by simp [dot]
  | t :: a, b => by simp only [List.cons_append, dot, dot_append g a b]; omega

def ind (k : List Int) : List Int → Int := fun j => if j = k then 1 else 0
abbrev coef (l : List api_Term) (k : List Int) : Int := dot (ind k) l
theorem coef_cons (t : api_Term) (l : List api_Term) (k : List Int) : coef (t :: l) k = (if key t = k then t.Coef else 0) + coef l k := by
  simp only [coef, dot, ind]; split <;> simp

def Pos (l : List api_Term) : Prop := ∀ t ∈ l, 1 ≤ t.Coef
def Srt (l : List api_Term) : Prop := l.Pairwise (fun s t => ltL (key s) (key t) = true)
theorem Pos.tail {t : api_Term} {l : List api_Term} (h : Pos (t :: l)) : Pos l := fun s hs => h s (List.mem_cons_of_mem _ hs)
theorem Pos.append {a b : List api_Term} (h : Pos a) (g : Pos b) : Pos (a ++ b) := fun s hs => (List.mem_append.1 hs).elim (h s) (g s)
theorem coef_nonneg {l : List api_Term} (h : Pos l) (k : List Int) : 0 ≤ coef l k := by
  induction l with
  | nil => simp [coef, dot]
  | cons t l ih =>
    rw [coef_cons]
    have := ih h.tail
    have := h t List.mem_cons_self
    split <;> omega
theorem coef_none {l : List api_Term} {k : List Int} (h : ∀ t ∈ l, key t ≠ k) : coef l k = 0 := by
  induction l with
  | nil => rfl
  | cons t l ih =>
    rw [coef_cons, if_neg (h t List.mem_cons_self), ih (fun s hs => h s (List.mem_cons_of_mem _ hs))]; rfl
theorem coef_head {t : api_Term} {l : List api_Term} (h : Srt (t :: l)) : coef (t :: l) (key t) = t.Coef := by
  rw [coef_cons, if_pos rfl, coef_none (fun s hs => ?_)]
  · omega
  · have := (List.pairwise_cons.1 h).1 s hs
    exact fun e => ltL_ne this e.symm

/-- One form. -/
theorem sum_ext : ∀ {p q : List api_Term}, Srt p → Srt q → Pos p → Pos q → (∀ k, coef p k = coef q k) → p = q
  | [], [], _, _, _, _, _ => rfl
  | [], t :: q, _, hq, _, gq, h => by
    have h1 := h (key t)
    rw [coef_head hq] at h1
    have := gq t List.mem_cons_self
    simp [coef, dot] at h1; omega
  | s :: p, [], hp, _, gp, _, h => by
    have h1 := h (key s)
    rw [coef_head hp] at h1
    have := gp s List.mem_cons_self
    simp [coef, dot] at h1; omega
  | s :: p, t :: q, hp, hq, gp, gq, h => by
    have hs := gp s List.mem_cons_self
    have ht := gq t List.mem_cons_self
    have below : ∀ {a b : api_Term} {l : List api_Term}, Srt (b :: l) → ltL (key a) (key b) = true → coef (b :: l) (key a) = 0 := by
      intro a b l hb hab
      refine coef_none (fun x hx => ?_)
      rcases List.mem_cons.1 hx with rfl | hx
      · exact fun e => ltL_ne hab e.symm
      · exact fun e => ltL_ne (ltL_trans hab ((List.pairwise_cons.1 hb).1 x hx)) e.symm
    by_cases e : key s = key t
    · have h1 := h (key s)
      rw [coef_head hp, e, coef_head hq] at h1
      have hst : s = t := term_ext e h1
      subst hst
      have : p = q := sum_ext (List.pairwise_cons.1 hp).2 (List.pairwise_cons.1 hq).2 gp.tail gq.tail (fun k => by
        have := h k
        rw [coef_cons, coef_cons] at this; omega)
      rw [this]
    · cases hl : ltL (key s) (key t) with
      | true =>
        have h1 := h (key s)
        rw [coef_head hp, below hq hl] at h1; omega
      | false =>
        have hl2 := ltL_tri (by rw [key_len, key_len]) e hl
        have h1 := h (key t)
        rw [coef_head hq, below hp hl2] at h1; omega

/-- Two rows that rise, as one. -/
def mrg (one : api_Term → api_Term → api_Term) : List api_Term → List api_Term → List api_Term
  | [], b => b
  | s :: a, [] => s :: a
  | s :: a, t :: b => if cmpL (key s) (key t) < 0 then s :: mrg one a (t :: b) else if 0 < cmpL (key s) (key t) then t :: mrg one (s :: a) b else one s t :: mrg one a b
termination_by a b => a.length + b.length

theorem mrg_nil (one : api_Term → api_Term → api_Term) (a : List api_Term) : mrg one a [] = a := by cases a <;> simp [mrg]

theorem merged_loop (F : Nat) (φ2 : api_Term → api_Term → Option Int) (φ3 : api_Term → api_Term → Option api_Term) (one : api_Term → api_Term → api_Term) (h2 : ∀ s t, φ2 s t = some (cmpL (key s) (key t))) :
    ∀ (n : Nat) (a b out : List api_Term), (∀ s ∈ a, ∀ t ∈ b, φ3 s t = some (one s t)) → a.length + b.length < n → out.length + a.length + b.length ≤ 1000000 →
    poly_merged_api_Term_L0 F φ2 φ3 (fun v2 v3 v5 => (appM 24 v5 v2).bind fun x38 => (appM 24 x38 v3).bind fun x40 => some x40) n a b out = some (out ++ mrg one a b)
  | 0, a, b, out, h3, hn, hl => by omega
  | n + 1, a, b, out, h3, hn, hl => by
    have hroom : ∀ (xs ys : List api_Term), xs.length + ys.length ≤ 1000000 → appM 24 xs ys = some (xs ++ ys) := fun xs ys h => app_ok (by simp [roomMax]; omega) (by omega)
    rw [poly_merged_api_Term_L0]
    cases a with
    | nil =>
      simp only [List.length_nil, mrg] at hl ⊢
      rw [hroom out [] (by simp; omega)]
      simp only [Int.natCast_zero, Int.lt_irrefl, decide_false, Bool.false_and, cond_false, Option.bind_some, List.append_nil]
      rw [hroom out b (by omega)]; rfl
    | cons s a =>
      cases b with
      | nil =>
        simp only [List.length_nil, mrg] at hl ⊢
        rw [hroom out (s :: a) (by omega)]
        simp only [Int.natCast_zero, Int.lt_irrefl, decide_false, Bool.and_false, cond_false, Option.bind_some]
        rw [hroom _ [] (by simp at hl ⊢; omega)]; simp
      | cons t b =>
        have c1 : (decide (0 < ((s :: a).length : Int)) && decide (0 < ((t :: b).length : Int))) = true := by simp
        simp only [c1, cond_true, idx_zero, Option.bind_some, h2, sub_tail, mrg]
        simp only [List.length_cons] at hn hl
        by_cases k1 : cmpL (key s) (key t) < 0
        · rw [if_pos k1]
          simp only [k1, decide_true, cond_true]
          rw [hroom out [s] (by simp; omega)]
          simp only [Option.bind_some]
          rw [merged_loop F φ2 φ3 one h2 n a (t :: b) (out ++ [s]) (fun x hx y hy => h3 x (List.mem_cons_of_mem _ hx) y hy) (by simp; omega) (by simp; omega)]
          simp
        · rw [if_neg k1]
          simp only [k1, decide_false, cond_false]
          by_cases k2 : 0 < cmpL (key s) (key t)
          · rw [if_pos k2]
            simp only [k2, decide_true, cond_true]
            rw [hroom out [t] (by simp; omega)]
            simp only [Option.bind_some]
            rw [merged_loop F φ2 φ3 one h2 n (s :: a) b (out ++ [t]) (fun x hx y hy => h3 x hx y (List.mem_cons_of_mem _ hy)) (by simp; omega) (by simp; omega)]
            simp
          · rw [if_neg k2]
            simp only [k2, decide_false, cond_false, h3 s List.mem_cons_self t List.mem_cons_self, Option.bind_some]
            rw [hroom out [one s t] (by simp; omega)]
            simp only [Option.bind_some]
            rw [merged_loop F φ2 φ3 one h2 n a b (out ++ [one s t]) (fun x hx y hy => h3 x (List.mem_cons_of_mem _ hx) y (List.mem_cons_of_mem _ hy)) (by omega) (by simp; omega)]
            simp

theorem merged_ok (F : Nat) (hF : 1000 ≤ F) (a b : List api_Term) (φ3 : api_Term → api_Term → Option api_Term) (one : api_Term → api_Term → api_Term) (h3 : ∀ s ∈ a, ∀ t ∈ b, φ3 s t = some (one s t)) (hl : a.length + b.length ≤ 500) :
    poly_merged_api_Term F a b (fun y0 y1 => poly_order F y0 y1) φ3 = some (mrg one a b) := by
  unfold poly_merged_api_Term joinM
  dsimp only
  rw [merged_loop F _ φ3 one (fun s t => order_ok F (by omega) s t) F a b [] h3 (by omega) (by simp; omega)]
  simp

section
variable {one : api_Term → api_Term → api_Term} (hone : ∀ s t, key (one s t) = key s)
include hone
theorem mrg_keys : ∀ (a b : List api_Term) (x : api_Term), x ∈ mrg one a b → (∃ s ∈ a, key x = key s) ∨ (∃ t ∈ b, key x = key t)
  | [], b, x, h => by simp only [mrg] at h; exact .inr ⟨x, h, rfl⟩
  | s :: a, [], x, h => by simp only [mrg] at h; exact .inl ⟨x, h, rfl⟩
  | s :: a, t :: b, x, h => by
    rw [mrg] at h
    split at h
    · rcases List.mem_cons.1 h with rfl | h
      · exact .inl ⟨_, List.mem_cons_self, rfl⟩
      · rcases mrg_keys a (t :: b) x h with ⟨y, hy, e⟩ | ⟨y, hy, e⟩
        · exact .inl ⟨y, List.mem_cons_of_mem _ hy, e⟩
        · exact .inr ⟨y, hy, e⟩
    · split at h
      · rcases List.mem_cons.1 h with rfl | h
        · exact .inr ⟨_, List.mem_cons_self, rfl⟩
        · rcases mrg_keys (s :: a) b x h with ⟨y, hy, e⟩ | ⟨y, hy, e⟩
          · exact .inl ⟨y, hy, e⟩
          · exact .inr ⟨y, List.mem_cons_of_mem _ hy, e⟩
      · rcases List.mem_cons.1 h with rfl | h
        · exact .inl ⟨s, List.mem_cons_self, hone s t⟩
        · rcases mrg_keys a b x h with ⟨y, hy, e⟩ | ⟨y, hy, e⟩
          · exact .inl ⟨y, List.mem_cons_of_mem _ hy, e⟩
          · exact .inr ⟨y, List.mem_cons_of_mem _ hy, e⟩
termination_by a b => a.length + b.length

theorem mrg_srt : ∀ (a b : List api_Term), Srt a → Srt b → Srt (mrg one a b)
  | [], b, _, hb => by simp only [mrg]; exact hb
  | s :: a, [], ha, _ => by simp only [mrg]; exact ha
  | s :: a, t :: b, ha, hb => by
    have hlen : (key s).length = (key t).length := by rw [key_len, key_len]
    have ha1 := (List.pairwise_cons.1 ha).1
    have hb1 := (List.pairwise_cons.1 hb).1
    rw [mrg]
    split
    · rename_i c
      have c := (cmpL_lt hlen).1 c
      refine List.pairwise_cons.2 ⟨fun x hx => ?_, mrg_srt a (t :: b) (List.pairwise_cons.1 ha).2 hb⟩
      rcases mrg_keys hone a (t :: b) x hx with ⟨y, hy, e⟩ | ⟨y, hy, e⟩
      · rw [e]; exact ha1 y hy
      · rw [e]
        rcases List.mem_cons.1 hy with rfl | hy
        · exact c
        · exact ltL_trans c (hb1 y hy)
    · rename_i c0
      split
      · rename_i c
        have c := (cmpL_gt hlen).1 c
        refine List.pairwise_cons.2 ⟨fun x hx => ?_, mrg_srt (s :: a) b ha (List.pairwise_cons.1 hb).2⟩
        rcases mrg_keys hone (s :: a) b x hx with ⟨y, hy, e⟩ | ⟨y, hy, e⟩
        · rw [e]
          rcases List.mem_cons.1 hy with rfl | hy
          · exact c
          · exact ltL_trans c (ha1 y hy)
        · rw [e]; exact hb1 y hy
      · rename_i c1
        have ek := cmpL_eq hlen c0 c1
        refine List.pairwise_cons.2 ⟨fun x hx => ?_, mrg_srt a b (List.pairwise_cons.1 ha).2 (List.pairwise_cons.1 hb).2⟩
        rw [hone]
        rcases mrg_keys hone a b x hx with ⟨y, hy, e⟩ | ⟨y, hy, e⟩
        · rw [e]; exact ha1 y hy
        · rw [e, ek]; exact hb1 y hy
termination_by a b => a.length + b.length
end

/-- Two like terms as one. -/
def addT (s t : api_Term) : api_Term := { s with Coef := s.Coef + t.Coef }
theorem dot_mrg (g : List Int → Int) : ∀ (a b : List api_Term), dot g (mrg addT a b) = dot g a + dot g b
  | [], b => by simp [mrg, dot]
  | s :: a, [] => by simp [mrg, dot]
  | s :: a, t :: b => by
    have hlen : (key s).length = (key t).length := by rw [key_len, key_len]
    rw [mrg]
    split
    · simp only [dot, dot_mrg g a (t :: b)]; omega
    · rename_i c0
      split
      · simp only [dot, dot_mrg g (s :: a) b]; omega
      · rename_i c1
        have ek := cmpL_eq hlen c0 c1
        simp only [dot, dot_mrg g a b, addT]
        rw [show key { s with Coef := s.Coef + t.Coef } = key s from rfl, ← ek, Int.add_mul]; omega
termination_by a b => a.length + b.length
theorem mrg_pos : ∀ (a b : List api_Term), Pos a → Pos b → Pos (mrg addT a b)
  | [], b, _, hb => by simp only [mrg]; exact hb
  | s :: a, [], ha, _ => by simp only [mrg]; exact ha
  | s :: a, t :: b, ha, hb => by
    have hs := ha s List.mem_cons_self
    have ht := hb t List.mem_cons_self
    rw [mrg]
    split
    · intro x hx
      rcases List.mem_cons.1 hx with rfl | hx
      · exact hs
      · exact mrg_pos a (t :: b) ha.tail hb x hx
    · split
      · intro x hx
        rcases List.mem_cons.1 hx with rfl | hx
        · exact ht
        · exact mrg_pos (s :: a) b ha hb.tail x hx
      · intro x hx
        rcases List.mem_cons.1 hx with rfl | hx
        · show 1 ≤ s.Coef + t.Coef; omega
        · exact mrg_pos a b ha.tail hb.tail x hx
termination_by a b => a.length + b.length

/-- What stands in one of two rows stands in both as one, and is no less. -/
theorem mrg_more : ∀ (a b : List api_Term), Pos a → Pos b → a.length ≤ (mrg addT a b).length ∧ ∀ s ∈ a, ∃ x ∈ mrg addT a b, key x = key s ∧ s.Coef ≤ x.Coef
  | [], b, _, hb => by simp [mrg]
  | s :: a, [], ha, _ => by simp only [mrg]; exact ⟨Nat.le_refl _, fun x hx => ⟨x, hx, rfl, Int.le_refl _⟩⟩
  | s :: a, t :: b, ha, hb => by
    have ht := hb t List.mem_cons_self
    rw [mrg]
    split
    · obtain ⟨h1, h2⟩ := mrg_more a (t :: b) ha.tail hb
      refine ⟨by simp; exact h1, fun x hx => ?_⟩
      rcases List.mem_cons.1 hx with rfl | hx
      · exact ⟨_, List.mem_cons_self, rfl, Int.le_refl _⟩
      · obtain ⟨y, hy, e⟩ := h2 x hx; exact ⟨y, List.mem_cons_of_mem _ hy, e⟩
    · split
      · obtain ⟨h1, h2⟩ := mrg_more (s :: a) b ha hb.tail
        refine ⟨by simp at h1 ⊢; omega, fun x hx => ?_⟩
        obtain ⟨y, hy, e⟩ := h2 x hx; exact ⟨y, List.mem_cons_of_mem _ hy, e⟩
      · obtain ⟨h1, h2⟩ := mrg_more a b ha.tail hb.tail
        refine ⟨by simp; exact h1, fun x hx => ?_⟩
        rcases List.mem_cons.1 hx with rfl | hx
        · exact ⟨_, List.mem_cons_self, rfl, by show x.Coef ≤ x.Coef + t.Coef; omega⟩
        · obtain ⟨y, hy, e⟩ := h2 x hx; exact ⟨y, List.mem_cons_of_mem _ hy, e⟩
termination_by a b => a.length + b.length

theorem chk_some : ∀ (l : List api_Term) (s : api_Term), chk (some s) l = true ↔ (∀ t ∈ l, okT t = true) ∧ Srt (s :: l)
  | [], s => by simp [chk, Srt]
  | t :: l, s => by
    simp only [chk, Bool.and_eq_true, chk_some l t]
    constructor
    · rintro ⟨⟨h1, h2⟩, h3, h4⟩
      refine ⟨fun x hx => ?_, List.pairwise_cons.2 ⟨fun x hx => ?_, h4⟩⟩
      · rcases List.mem_cons.1 hx with rfl | hx
        · exact h1
        · exact h3 x hx
      · rcases List.mem_cons.1 hx with rfl | hx
        · exact h2
        · exact ltL_trans h2 ((List.pairwise_cons.1 h4).1 x hx)
    · rintro ⟨h1, h2⟩
      obtain ⟨h3, h4⟩ := List.pairwise_cons.1 h2
      exact ⟨⟨h1 t List.mem_cons_self, h3 t List.mem_cons_self⟩, fun x hx => h1 x (List.mem_cons_of_mem _ hx), h4⟩
theorem fit_iff (p : List api_Term) : fitB p = true ↔ p.length ≤ 64 ∧ (∀ t ∈ p, okT t = true) ∧ Srt p := by
  unfold fitB
  rw [Bool.and_eq_true, decide_eq_true_eq]
  cases p with
  | nil => simp [chk, Srt]
  | cons t l =>
    simp only [chk, Bool.and_true, Bool.and_eq_true, chk_some]
    constructor
    · rintro ⟨h1, h2, h3, h4⟩
      refine ⟨h1, fun x hx => ?_, h4⟩
      rcases List.mem_cons.1 hx with rfl | hx
      · exact h2
      · exact h3 x hx
    · rintro ⟨h1, h2, h3⟩
      exact ⟨h1, h2 t List.mem_cons_self, fun x hx => h2 x (List.mem_cons_of_mem _ hx), h3⟩
theorem okT_iff (t : api_Term) : okT t = true ↔ 1 ≤ t.Coef ∧ t.Coef ≤ 1099511627776 ∧ ∀ e ∈ key t, e ≤ 6 := by
  simp [okT, and_assoc]
theorem fit_pos {p : List api_Term} (h : fitB p = true) : Pos p := fun t ht => ((okT_iff t).1 (((fit_iff p).1 h).2.1 t ht)).1
theorem fit_srt {p : List api_Term} (h : fitB p = true) : Srt p := ((fit_iff p).1 h).2.2

/-- A row of terms in its one form. -/
def norm : List api_Term → List api_Term
  | [] => []
  | t :: l => mrg addT [t] (norm l)
theorem norm_srt : ∀ (l : List api_Term), Srt (norm l)
  | [] => .nil
  | t :: l => mrg_srt (one := addT) (fun _ _ => rfl) _ _ (List.pairwise_singleton _ _) (norm_srt l)
theorem norm_pos : ∀ {l : List api_Term}, Pos l → Pos (norm l)
  | [], h => h
  | t :: l, h => mrg_pos _ _ (fun s hs => by rw [List.mem_singleton.1 hs]; exact h t List.mem_cons_self) (norm_pos h.tail)
theorem norm_dot (g : List Int → Int) : ∀ (l : List api_Term), dot g (norm l) = dot g l
  | [] => rfl
  | t :: l => by rw [norm, dot_mrg, norm_dot g l]; simp [dot]
/-- What is sorted and has the same numbers is the form. -/
theorem norm_eq {l p : List api_Term} (hl : Pos l) (h1 : Srt p) (h2 : Pos p) (h3 : ∀ k, coef p k = coef l k) : norm l = p :=
  sum_ext (norm_srt l) h1 (norm_pos hl) h2 (fun k => by rw [h3]; exact norm_dot _ l)
theorem norm_congr {l m : List api_Term} (hl : Pos l) (hm : Pos m) (h : ∀ k, coef l k = coef m k) : norm l = norm m :=
  norm_eq hl (norm_srt m) (norm_pos hm) (fun k => by rw [h]; exact norm_dot _ m)
theorem norm_fit {p : List api_Term} (h : fitB p = true) : norm p = p := norm_eq (fit_pos h) (fit_srt h) (fit_pos h) (fun _ => rfl)
theorem norm_append {l m : List api_Term} (hl : Pos l) (hm : Pos m) : norm (l ++ m) = mrg addT (norm l) (norm m) :=
  norm_eq (hl.append hm) (mrg_srt (one := addT) (fun _ _ => rfl) _ _ (norm_srt l) (norm_srt m)) (mrg_pos _ _ (norm_pos hl) (norm_pos hm)) (fun k => by
    show dot _ _ = dot _ _
    rw [dot_mrg, norm_dot, norm_dot, dot_append])
/-- A part of what can be can be. -/
theorem fit_part {l m : List api_Term} (hl : Pos l) (hm : Pos m) (h : fitB (norm (l ++ m)) = true) : fitB (norm l) = true := by
  rw [norm_append hl hm] at h
  obtain ⟨h1, h2, h3⟩ := (fit_iff _).1 h
  obtain ⟨g1, g2⟩ := mrg_more (norm l) (norm m) (norm_pos hl) (norm_pos hm)
  refine (fit_iff _).2 ⟨by omega, fun t ht => ?_, norm_srt l⟩
  obtain ⟨x, hx, e1, e2⟩ := g2 t ht
  obtain ⟨q1, q2, q3⟩ := (okT_iff x).1 (h2 x hx)
  exact (okT_iff t).2 ⟨norm_pos hl t ht, by omega, by rw [← e1]; exact q3⟩

/-- What a sum comes to. -/
def Res (l : List api_Term) : List api_Term × Int := if fitB (norm l) = true then (norm l, 0) else ([], 17)
theorem Res_congr {l m : List api_Term} (hl : Pos l) (hm : Pos m) (h : ∀ k, coef l k = coef m k) : Res l = Res m := by
  unfold Res; rw [norm_congr hl hm h]

theorem add_ok (F : Nat) (hF : 1000 ≤ F) {a b : List api_Term} (ha : fitB a = true) (hb : fitB b = true) : poly_Add F a b = some (Res (a ++ b)) := by
  have la := ((fit_iff a).1 ha).1
  have lb := ((fit_iff b).1 hb).1
  unfold poly_Add
  rw [merged_ok F hF a b _ addT (fun s hs t ht => ?_) (by omega)]
  · have hn : norm (a ++ b) = mrg addT a b := by rw [norm_append (fit_pos ha) (fit_pos hb), norm_fit ha, norm_fit hb]
    simp only [Option.bind_some, checked_ok F (by omega), Res, hn]
  · obtain ⟨a1, a2, _⟩ := (okT_iff s).1 (((fit_iff a).1 ha).2.1 s hs)
    obtain ⟨b1, b2, _⟩ := (okT_iff t).1 (((fit_iff b).1 hb).2.1 t ht)
    unfold poly_added addT
    rw [wrap_ok (by omega) (by omega)]
end Go.Proofs.Ytfbkgjmpadknfaa.M
