/-
  How light types, patterns, expressions and programs are.
-/
import Derived.Test.YtappiofmkoelnaaTtM
import Derived.Test.YtappiofmkoelnaaTtO
namespace Go.Proofs.Ytappiofmkoelnaa.M
open Go.Proofs.YtappiofmkoelnaaW.Ah Go.Proofs.Ytappiofmkoelnaa
set_option linter.unusedVariables false
set_option linter.unusedSimpArgs false

theorem idx_nat {α : Type} (xs : List α) (k : Nat) : idx xs (k : Int) = xs[k]? := by simp [idx]
theorem wrapS (n : Nat) (h : n < 9223372036854775807) : IntKind.i64.wrap ((n : Int) + 1) = ((n + 1 : Nat) : Int) := wrap_succ n (by omega)
theorem wrap_ok {x : Int} (h1 : -9223372036854775808 ≤ x) (h2 : x ≤ 9223372036854775807) : IntKind.i64.wrap x = x := wrap64_id h1 (by omega)
theorem big {n : Nat} (h : n ≤ maxLen) : n ≤ 9223372036854775807 := Nat.le_trans h (by decide)

/-- From some number on. -/
def Evt (p : Nat → Prop) : Prop := ∃ N, ∀ F, N ≤ F → p F
theorem Evt.of {p : Nat → Prop} (h : ∀ F, p F) : Evt p := ⟨0, fun F _ => h F⟩
theorem Evt.ge (n : Nat) : Evt (fun F => n ≤ F) := ⟨n, fun _ h => h⟩
theorem Evt.and {p q : Nat → Prop} (h : Evt p) (g : Evt q) : Evt (fun F => p F ∧ q F) :=
  let ⟨a, ha⟩ := h; let ⟨b, hb⟩ := g; ⟨max a b, fun F hF => ⟨ha F (by omega), hb F (by omega)⟩⟩
theorem Evt.mono {p q : Nat → Prop} (h : Evt p) (g : ∀ F, p F → q F) : Evt q := let ⟨a, ha⟩ := h; ⟨a, fun F hF => g F (ha F hF)⟩
theorem Evt.all {α : Type} {p : α → Nat → Prop} : ∀ {l : List α}, (∀ x ∈ l, Evt (p x)) → Evt (fun F => ∀ x ∈ l, p x F)
  | [], _ => .of fun F x hx => by cases hx
  | a :: l, h => ((h a (by simp)).and (Evt.all (l := l) fun x hx => h x (by simp [hx]))).mono fun F ⟨h1, h2⟩ x hx => by
    rcases List.mem_cons.1 hx with rfl | hx
    · exact h1
    · exact h2 x hx
theorem Evt.succ {p : Nat → Prop} (h : Evt p) : Evt (fun F => ∃ F', F = F' + 1 ∧ p F') := let ⟨a, ha⟩ := h; ⟨a + 1, fun F hF => ⟨F - 1, by omega, ha _ (by omega)⟩⟩
theorem Evt.ex {p : Nat → Prop} (h : Evt p) : ∃ F, p F := let ⟨a, ha⟩ := h; ⟨a, ha a (Nat.le_refl _)⟩

/-- A loop through a row. -/
theorem loop_go {α σ β : Type} (xs : List α) (f : Nat → σ → Int → Option β) (P : Nat → σ → Prop) (R : Option β → Prop)
    (hend : ∀ n s, P xs.length s → R (f (n + 1) s (xs.length : Int)))
    (hstep : ∀ n s k x, xs[k]? = some x → P k s → (∀ s', P (k + 1) s' → R (f n s' ((k + 1 : Nat) : Int))) → R (f (n + 1) s (k : Int))) :
    ∀ (m n : Nat) (s : σ) (k : Nat), xs.length = k + m → m < n → P k s → R (f n s (k : Int))
  | 0, 0, s, k, _, hn, _ => by omega
  | 0, n + 1, s, k, e, _, hp => by
    rw [Nat.add_zero] at e
    subst e
    exact hend n s hp
  | m + 1, 0, s, k, _, hn, _ => by omega
  | m + 1, n + 1, s, k, e, hn, hp => by
    obtain ⟨x, hx⟩ : ∃ x, xs[k]? = some x := ⟨xs[k]'(by omega), by simp⟩
    exact hstep n s k x hx hp fun s' hs' => loop_go xs f P R hend hstep m n s' (k + 1) (by omega) (by omega) hs'
theorem loop_ok {α σ β : Type} (xs : List α) (f : Nat → σ → Int → Option β) (P : Nat → σ → Prop) (R : Option β → Prop)
    (hend : ∀ n s, P xs.length s → R (f (n + 1) s (xs.length : Int)))
    (hstep : ∀ n s k x, xs[k]? = some x → P k s → (∀ s', P (k + 1) s' → R (f n s' ((k + 1 : Nat) : Int))) → R (f (n + 1) s (k : Int)))
    (n : Nat) (s : σ) (hn : xs.length < n) (hp : P 0 s) : R (f n s 0) := by
  have := loop_go xs f P R hend hstep xs.length n s 0 (by omega) hn hp
  simpa using this

theorem lt_of_get {α : Type} {xs : List α} {k : Nat} {x : α} (h : xs[k]? = some x) : k < xs.length := (List.getElem?_eq_some_iff.1 h).1
theorem dec_lt {α : Type} {xs : List α} {k : Nat} {x : α} (h : xs[k]? = some x) : decide ((k : Int) < (xs.length : Int)) = true := by have := lt_of_get h; simp; omega
theorem dec_end {α : Type} (xs : List α) : decide ((xs.length : Int) < (xs.length : Int)) = false := by simp
theorem wrapK {α : Type} {xs : List α} {k : Nat} {x : α} (h : xs[k]? = some x) (hl : xs.length ≤ maxLen) : IntKind.i64.wrap ((k : Int) + 1) = ((k + 1 : Nat) : Int) := wrapS k (by have := lt_of_get h; have := big hl; omega)
theorem take_next {α : Type} {xs : List α} {k : Nat} {x : α} (h : xs[k]? = some x) : xs.take (k + 1) = xs.take k ++ [x] := by
  have := lt_of_get h
  rw [List.take_add_one, h]; rfl

/-! How many nodes there are. -/
mutual
def szT : api_Type → Nat
  | ⟨_, _, ps⟩ => 1 + szTs ps
def szTs : List api_Type → Nat
  | [] => 0
  | x :: xs => szT x + szTs xs
end
theorem szTs_append : ∀ (xs ys : List api_Type), szTs (xs ++ ys) = szTs xs + szTs ys
  | [], ys => by simp [szTs]
  | x :: xs, ys => by simp only [List.cons_append, szTs, szTs_append xs ys]; omega
theorem szT_pos : ∀ t : api_Type, 1 ≤ szT t
  | ⟨_, _, _⟩ => by simp only [szT]; omega
theorem szTs_len : ∀ xs : List api_Type, xs.length ≤ szTs xs
  | [] => by simp
  | x :: xs => by have := szTs_len xs; have := szT_pos x; simp only [List.length_cons, szTs]; omega
theorem szTs_mem : ∀ {xs : List api_Type} {x : api_Type}, x ∈ xs → szT x ≤ szTs xs
  | [], x, h => by cases h
  | y :: xs, x, h => by
    simp only [szTs]
    rcases List.mem_cons.1 h with rfl | h
    · omega
    · have := szTs_mem h; omega
theorem szT_eq (t : api_Type) : szT t = 1 + szTs t.Parts := by cases t; simp [szT]

/-- What is left of v, when a thing of n nodes is taken off. -/
def Lt (n : Nat) (v : Int) (o : Option Int) : Prop := ∃ r, o = some r ∧ min v 0 - 8388608 ≤ r ∧ r ≤ v - 1 ∧ (0 ≤ r → (n : Int) ≤ v - r)
/-- Numbers that are left. -/
def Left (v : Int) : Prop := -1099511627776 ≤ v ∧ v ≤ 1048576

theorem name_part (n : Nat) : 0 ≤ (if 1048576 < (n : Int) then 1048576 else (n : Int)) ∧ (if 1048576 < (n : Int) then 1048576 else (n : Int)) ≤ 1048576 := by
  split <;> omega

theorem lightType_ok : ∀ (t : api_Type), W40 t → Evt fun F => ∀ v, Left v → ∃ r, R04_LightType F t v = some r ∧ min v 0 - 1048577 ≤ r ∧ r ≤ v - 1 ∧ (0 ≤ r → (szT t : Int) ≤ v - r)
  | ⟨kd, nm, parts⟩, hw => by
    obtain ⟨_, _, hl, hp⟩ := (W40_iff _).1 hw
    have ih : ∀ p ∈ parts, Evt fun F => ∀ v, Left v → ∃ r, R04_LightType F p v = some r ∧ min v 0 - 1048577 ≤ r ∧ r ≤ v - 1 ∧ (0 ≤ r → (szT p : Int) ≤ v - r) := fun p hpm => lightType_ok p (hp p hpm)
    refine (((Evt.all ih).and (Evt.ge (parts.length + 1))).succ).mono ?_
    rintro F ⟨F', rfl, h1, h2⟩ v hv
    rw [R04_LightType, R04_LightType_B]
    have hn := name_part nm.size
    have hv' := hv
    unfold Left at hv'
    have e1 : IntKind.i64.wrap (v - 1) = v - 1 := wrap_ok (by omega) (by omega)
    rw [e1, wrap_ok (by simp only; omega) (by simp only; omega)]
    generalize hw0 : v - 1 - (if 1048576 < (nm.size : Int) then 1048576 else (nm.size : Int)) = w
    have hw1 : v - 1048577 ≤ w ∧ w ≤ v - 1 := by omega
    refine loop_ok parts (fun n s k => R04_LightType_L0 F' (R04_LightType F') ⟨kd, nm, parts⟩ n s k) (fun k s => s ≤ w ∧ min w 0 - 1048577 ≤ s ∧ (w < 0 → s = w) ∧ (0 ≤ s → (szTs (parts.take k) : Int) ≤ w - s))
      (fun o => ∃ r, o = some r ∧ min v 0 - 1048577 ≤ r ∧ r ≤ v - 1 ∧ (0 ≤ r → (szT ⟨kd, nm, parts⟩ : Int) ≤ v - r)) ?_ ?_ F' w (by omega) ⟨Int.le_refl _, by omega, fun _ => rfl, fun h => by simp [szTs]⟩
    · intro n s ⟨p1, p2, p3, p4⟩
      rw [R04_LightType_L0]
      simp only [dec_end, Bool.false_and, cond_false]
      rw [List.take_length] at p4
      exact ⟨s, rfl, by omega, by omega, fun h => by have := p4 h; simp only [szT]; omega⟩
    · intro n s k x hx ⟨p1, p2, p3, p4⟩ next
      rw [R04_LightType_L0]
      simp only [dec_lt hx, Bool.true_and]
      cases hs : decide (0 ≤ s) with
      | false =>
        simp only [decide_eq_false_iff_not] at hs
        exact ⟨s, rfl, by omega, by omega, fun h => absurd h hs⟩
      | true =>
        simp only [decide_eq_true_eq] at hs
        simp only [cond_true, idx_nat, hx, Option.bind_some]
        obtain ⟨r, hr, q1, q2, q3⟩ := h1 x (List.mem_of_getElem? hx) s ⟨by omega, by omega⟩
        rw [hr]
        simp only [Option.bind_some]
        rw [wrapK hx hl]
        refine next r ⟨by omega, by omega, by omega, fun h => ?_⟩
        rw [take_next hx, szTs_append]
        simp only [szTs]
        have := p4 hs
        have := q3 h
        omega
termination_by t => t
decreasing_by
  have := List.sizeOf_lt_of_mem hpm
  simp only [api_Type.mk.sizeOf_spec]
  omega

theorem lightPat_ok : ∀ (t : api_Pat), W87 t → Evt fun F => ∀ v, Left v → ∃ r, R04_LightPat F t v = some r ∧ min v 0 - 1048577 ≤ r ∧ r ≤ v - 1
  | ⟨kd, ps, nm, nu, parts⟩, hw => by
    obtain ⟨_, _, _, _, hl, hp⟩ := (W87_iff _).1 hw
    have ih : ∀ p ∈ parts, Evt fun F => ∀ v, Left v → ∃ r, R04_LightPat F p v = some r ∧ min v 0 - 1048577 ≤ r ∧ r ≤ v - 1 := fun p hpm => lightPat_ok p (hp p hpm)
    refine (((Evt.all ih).and (Evt.ge (parts.length + 1))).succ).mono ?_
    rintro F ⟨F', rfl, h1, h2⟩ v hv
    rw [R04_LightPat, R04_LightPat_B]
    have hn := name_part nm.size
    have hv' := hv
    unfold Left at hv'
    have e1 : IntKind.i64.wrap (v - 1) = v - 1 := wrap_ok (by omega) (by omega)
    rw [e1, wrap_ok (by simp only; omega) (by simp only; omega)]
    generalize hw0 : v - 1 - (if 1048576 < (nm.size : Int) then 1048576 else (nm.size : Int)) = w
    have hw1 : v - 1048577 ≤ w ∧ w ≤ v - 1 := by omega
    refine loop_ok parts (fun n s k => R04_LightPat_L0 F' (R04_LightPat F') ⟨kd, ps, nm, nu, parts⟩ n s k) (fun k s => s ≤ w ∧ min w 0 - 1048577 ≤ s ∧ (w < 0 → s = w))
      (fun o => ∃ r, o = some r ∧ min v 0 - 1048577 ≤ r ∧ r ≤ v - 1) ?_ ?_ F' w (by omega) ⟨Int.le_refl _, by omega, fun _ => rfl⟩
    · intro n s ⟨p1, p2, p3⟩
      rw [R04_LightPat_L0]
      simp only [dec_end, Bool.false_and, cond_false]
      exact ⟨s, rfl, by omega, by omega⟩
    · intro n s k x hx ⟨p1, p2, p3⟩ next
      rw [R04_LightPat_L0]
      simp only [dec_lt hx, Bool.true_and]
      cases hs : decide (0 ≤ s) with
      | false =>
        simp only [decide_eq_false_iff_not] at hs
        exact ⟨s, rfl, by omega, by omega⟩
      | true =>
        simp only [decide_eq_true_eq] at hs
        simp only [cond_true, idx_nat, hx, Option.bind_some]
        obtain ⟨r, hr, q1, q2⟩ := h1 x (List.mem_of_getElem? hx) s ⟨by omega, by omega⟩
        rw [hr]
        simp only [Option.bind_some]
        rw [wrapK hx hl]
        exact next r ⟨by omega, by omega, by omega⟩
termination_by t => t
decreasing_by
  have := List.sizeOf_lt_of_mem hpm
  simp only [api_Pat.mk.sizeOf_spec]
  omega

/-- What Light leaves of v. -/
def LtE (v : Int) (o : Option Int) : Prop := ∃ r, o = some r ∧ (0 ≤ v → -3145730 ≤ r) ∧ (v < 0 → v - 2097153 ≤ r) ∧ r ≤ v - 1

theorem light_ok : ∀ (t : api_Expr), W48 t → Evt fun F => ∀ v, Left v → LtE v (R04_Light F t v)
  | ⟨kd, ps, nu, bs, nm, kids, arms⟩, hw => by
    obtain ⟨_, _, _, _, _, ⟨hl, hp⟩, ha, hq⟩ := (W48_iff _).1 hw
    have ih1 : ∀ p ∈ kids, Evt fun F => ∀ v, Left v → LtE v (R04_Light F p v) := fun p hpm => light_ok p (hp p hpm)
    have ih2 : ∀ p ∈ arms, Evt fun F => (∀ v, Left v → ∃ r, R04_LightPat F p.Pat v = some r ∧ min v 0 - 1048577 ≤ r ∧ r ≤ v - 1) ∧ (∀ v, Left v → LtE v (R04_Light F p.Body v)) := fun p hpa =>
      (lightPat_ok p.Pat ((W89_iff _).1 (hq p hpa)).1).and (light_ok p.Body ((W89_iff _).1 (hq p hpa)).2)
    refine (((Evt.all ih1).and (Evt.all ih2)).and ((Evt.ge (kids.length + 1)).and (Evt.ge (arms.length + 1))) |>.succ).mono ?_
    rintro F ⟨F', rfl, ⟨h1, h2⟩, h3, h4⟩ v hv
    rw [R04_Light, R04_Light_B]
    have hn := name_part nm.size
    have hb := name_part bs.length
    have hv' := hv
    unfold Left at hv'
    have e1 : IntKind.i64.wrap (v - 1) = v - 1 := wrap_ok (by omega) (by omega)
    rw [e1, wrap_ok (x := v - 1 - _) (by simp only; omega) (by simp only; omega), wrap_ok (by simp only; omega) (by simp only; omega)]
    simp only
    generalize hw0 : v - 1 - (if 1048576 < (bs.length : Int) then 1048576 else (bs.length : Int)) - (if 1048576 < (nm.size : Int) then 1048576 else (nm.size : Int)) = w
    have hw1 : v - 2097153 ≤ w ∧ w ≤ v - 1 := by omega
    simp only [joinM]
    have armsLoop : ∀ w2, w2 ≤ w → (0 ≤ v → -3145730 ≤ w2) → (w < 0 → w2 = w) → LtE v (R04_Light_L1 F' (R04_Light F') ⟨kd, ps, nu, bs, nm, kids, arms⟩ F' w2 0) := by
      intro w2 g1 g2 g3
      refine loop_ok arms (fun n s k => R04_Light_L1 F' (R04_Light F') ⟨kd, ps, nu, bs, nm, kids, arms⟩ n s k) (fun k s => s ≤ w ∧ (0 ≤ v → -3145730 ≤ s) ∧ (w < 0 → s = w)) (LtE v) ?_ ?_ F' w2 (by omega) ⟨g1, g2, g3⟩
      · intro n s ⟨p1, p2, p3⟩
        rw [R04_Light_L1]
        simp only [dec_end, Bool.false_and, cond_false]
        exact ⟨s, rfl, p2, fun h => by have := p3 (by omega); omega, by omega⟩
      · intro n s k x hx ⟨p1, p2, p3⟩ next
        rw [R04_Light_L1]
        simp only [dec_lt hx, Bool.true_and]
        cases hs : decide (0 ≤ s) with
        | false =>
          simp only [decide_eq_false_iff_not] at hs
          exact ⟨s, rfl, p2, fun h => by have := p3 (by omega); omega, by omega⟩
        | true =>
          simp only [decide_eq_true_eq] at hs
          simp only [cond_true, idx_nat, hx, Option.bind_some]
          obtain ⟨r, hr, q1, q2⟩ := (h2 x (List.mem_of_getElem? hx)).1 s ⟨by omega, by omega⟩
          rw [hr]
          simp only [Option.bind_some]
          obtain ⟨r2, hr2, q3, q4, q5⟩ := (h2 x (List.mem_of_getElem? hx)).2 r ⟨by omega, by omega⟩
          rw [hr2]
          simp only [Option.bind_some]
          rw [wrapK hx ha]
          exact next r2 ⟨by omega, fun h => by rcases Int.lt_or_le r 0 with h' | h'; have := q4 h'; omega; exact q3 h', by omega⟩
    refine loop_ok kids (fun n s k => R04_Light_L0 F' (R04_Light F') ⟨kd, ps, nu, bs, nm, kids, arms⟩ (fun v2 => R04_Light_L1 F' (R04_Light F') ⟨kd, ps, nu, bs, nm, kids, arms⟩ F' v2 0) n s k) (fun k s => s ≤ w ∧ (0 ≤ v → -3145730 ≤ s) ∧ (w < 0 → s = w)) (LtE v) ?_ ?_ F' w (by omega) ⟨Int.le_refl _, by omega, fun _ => rfl⟩
    · intro n s ⟨p1, p2, p3⟩
      rw [R04_Light_L0]
      simp only [dec_end, Bool.false_and, cond_false]
      exact armsLoop s p1 p2 p3
    · intro n s k x hx ⟨p1, p2, p3⟩ next
      rw [R04_Light_L0]
      simp only [dec_lt hx, Bool.true_and]
      cases hs : decide (0 ≤ s) with
      | false => exact armsLoop s p1 p2 p3
      | true =>
        simp only [decide_eq_true_eq] at hs
        simp only [cond_true, idx_nat, hx, Option.bind_some]
        obtain ⟨r, hr, q3, q4, q5⟩ := h1 x (List.mem_of_getElem? hx) s ⟨by omega, by omega⟩
        rw [hr]
        simp only [Option.bind_some]
        rw [wrapK hx hl]
        exact next r ⟨by omega, fun _ => q3 hs, by omega⟩
termination_by t => t
decreasing_by
  · have := List.sizeOf_lt_of_mem hpm
    simp only [api_Expr.mk.sizeOf_spec]
    omega
  · have := List.sizeOf_lt_of_mem hpa
    have : SizeOf.sizeOf p.Body < SizeOf.sizeOf p := by cases p; simp only [api_Arm.mk.sizeOf_spec]; omega
    simp only [api_Expr.mk.sizeOf_spec]
    omega

/-- A constructor, as a type whose parts are its fields. -/
abbrev conT (c : api_Con) : api_Type := ⟨0, c.Name, c.Fields⟩
theorem conT_W {c : api_Con} (h : W35 c) : W40 (conT c) := (W40_iff _).2 ⟨(show IntKind.i64.min ≤ 0 ∧ 0 ≤ IntKind.i64.max by decide), h.1, h.2⟩

/-- Nodes of constructors, of types. -/
def szC (l : List api_Con) : Nat := l.foldr (fun c n => szT (conT c) + n) 0
def szD (l : List api_Data) : Nat := l.foldr (fun d n => 1 + szC d.Cons + n) 0
theorem szC_append : ∀ (xs ys : List api_Con), szC (xs ++ ys) = szC xs + szC ys
  | [], ys => by simp [szC]
  | x :: xs, ys => by have := szC_append xs ys; simp only [szC] at this ⊢; simp only [List.cons_append, List.foldr_cons, this]; omega
theorem szD_append : ∀ (xs ys : List api_Data), szD (xs ++ ys) = szD xs + szD ys
  | [], ys => by simp [szD]
  | x :: xs, ys => by have := szD_append xs ys; simp only [szD] at this ⊢; simp only [List.cons_append, List.foldr_cons, this]; omega
theorem szC_one (c : api_Con) : szC [c] = szT (conT c) := by simp [szC]
theorem szD_one (d : api_Data) : szD [d] = 1 + szC d.Cons := by simp [szD]
theorem szC_len : ∀ xs : List api_Con, xs.length ≤ szC xs
  | [] => by simp
  | x :: xs => by have := szC_len xs; have := szT_pos (conT x); simp only [szC] at *; simp only [List.length_cons, List.foldr_cons]; omega
theorem szD_len : ∀ xs : List api_Data, xs.length ≤ szD xs
  | [] => by simp
  | x :: xs => by have := szD_len xs; simp only [szD] at *; simp only [List.length_cons, List.foldr_cons]; omega
theorem szC_mem : ∀ {xs : List api_Con} {x : api_Con}, x ∈ xs → szT (conT x) ≤ szC xs
  | [], x, h => by cases h
  | y :: xs, x, h => by
    have e : szC (y :: xs) = szT (conT y) + szC xs := rfl
    rcases List.mem_cons.1 h with rfl | h
    · omega
    · have := szC_mem h; omega
theorem szD_mem : ∀ {xs : List api_Data} {x : api_Data}, x ∈ xs → 1 + szC x.Cons ≤ szD xs
  | [], x, h => by cases h
  | y :: xs, x, h => by
    have e : szD (y :: xs) = 1 + szC y.Cons + szD xs := rfl
    rcases List.mem_cons.1 h with rfl | h
    · omega
    · have := szD_mem h; omega

/-- All that is light about a type's look, from some fuel on. -/
def LT (F : Nat) (t : api_Type) : Prop := ∀ v, Left v → ∃ r, R04_LightType F t v = some r ∧ min v 0 - 1048577 ≤ r ∧ r ≤ v - 1 ∧ (0 ≤ r → (szT t : Int) ≤ v - r)
def LE (F : Nat) (t : api_Expr) : Prop := ∀ v, Left v → LtE v (R04_Light F t v)

theorem consL {F : Nat} {p : api_Prog} {i : Nat} {d : api_Data} {K : Int → Option Int} (hd : p.Datas[i]? = some d) (hl : d.Cons.length ≤ maxLen) (hF : d.Cons.length < F) (h : ∀ c ∈ d.Cons, LT F (conT c)) (w : Int) (hw : -4294967296 ≤ w) (hw2 : w ≤ 1048576) {R : Option Int → Prop}
    (hK : ∀ s, s ≤ w → min w 0 - 1048577 ≤ s → (0 ≤ s → (szC d.Cons : Int) ≤ w - s) → R (K s)) : R (R04_LightProg_L1 F p (i : Int) K F w 0) := by
  refine loop_ok d.Cons (fun n s k => R04_LightProg_L1 F p (i : Int) K n s k) (fun k s => s ≤ w ∧ min w 0 - 1048577 ≤ s ∧ (w < 0 → s = w) ∧ (0 ≤ s → (szC (d.Cons.take k) : Int) ≤ w - s)) R ?_ ?_ F w hF ⟨Int.le_refl _, by omega, fun _ => rfl, fun h => by simp [szC]⟩
  · intro n s ⟨p1, p2, p3, p4⟩
    rw [R04_LightProg_L1]
    simp only [idx_nat, hd, Option.bind_some, dec_end, Bool.false_and, cond_false]
    rw [List.take_length] at p4
    exact hK s p1 p2 p4
  · intro n s k x hx ⟨p1, p2, p3, p4⟩ next
    rw [R04_LightProg_L1]
    simp only [idx_nat, hd, Option.bind_some, dec_lt hx, Bool.true_and]
    cases hs : decide (0 ≤ s) with
    | false =>
      simp only [decide_eq_false_iff_not] at hs
      exact hK s p1 p2 (fun h => absurd h hs)
    | true =>
      simp only [decide_eq_true_eq] at hs
      simp only [cond_true, hx, Option.bind_some]
      obtain ⟨r, hr, q1, q2, q3⟩ := h x (List.mem_of_getElem? hx) s ⟨by omega, by omega⟩
      rw [hr]
      simp only [Option.bind_some]
      rw [wrapK hx hl]
      refine next r ⟨by omega, by omega, by omega, fun h => ?_⟩
      rw [take_next hx, szC_append, szC_one]
      have := p4 hs
      have := q3 h
      omega

theorem datasL {F : Nat} {p : api_Prog} {K : Int → Option Int} (hl : p.Datas.length ≤ maxLen) (hF : p.Datas.length < F) (hc : ∀ d ∈ p.Datas, d.Cons.length ≤ maxLen ∧ d.Cons.length < F ∧ ∀ c ∈ d.Cons, LT F (conT c)) (w : Int) (hw : -4294967296 ≤ w) (hw2 : w ≤ 1048576) {R : Option Int → Prop}
    (hK : ∀ s, s ≤ w → min w 0 - 4194304 ≤ s → (0 ≤ s → (szD p.Datas : Int) ≤ w - s) → R (K s)) : R (R04_LightProg_L0 F p K F w 0) := by
  refine loop_ok p.Datas (fun n s k => R04_LightProg_L0 F p K n s k) (fun k s => s ≤ w ∧ min w 0 - 4194304 ≤ s ∧ (0 ≤ s → (szD (p.Datas.take k) : Int) ≤ w - s)) R ?_ ?_ F w hF ⟨Int.le_refl _, by omega, fun h => by simp [szD]⟩
  · intro n s ⟨p1, p2, p4⟩
    rw [R04_LightProg_L0]
    simp only [dec_end, Bool.false_and, cond_false]
    rw [List.take_length] at p4
    exact hK s p1 p2 p4
  · intro n s k x hx ⟨p1, p2, p4⟩ next
    rw [R04_LightProg_L0]
    simp only [dec_lt hx, Bool.true_and]
    cases hs : decide (0 ≤ s) with
    | false =>
      simp only [decide_eq_false_iff_not] at hs
      exact hK s p1 p2 (fun h => absurd h hs)
    | true =>
      simp only [decide_eq_true_eq] at hs
      simp only [cond_true, idx_nat, hx, Option.bind_some, joinM]
      obtain ⟨c1, c2, c3⟩ := hc x (List.mem_of_getElem? hx)
      have hn := name_part x.Name.size
      have e1 : IntKind.i64.wrap (s - 1) = s - 1 := wrap_ok (by omega) (by omega)
      rw [e1, wrap_ok (x := s - 1 - _) (by omega) (by omega)]
      refine consL hx c1 c2 c3 _ (by omega) (by omega) fun s' g1 g2 g3 => ?_
      rw [wrapK hx hl]
      refine next s' ⟨by omega, by omega, fun h => ?_⟩
      rw [take_next hx, szD_append, szD_one]
      have := p4 hs
      have := g3 h
      omega

theorem paramsL {F : Nat} {f : api_Fun} {K : Int → Option Int} (hl : f.Params.length ≤ maxLen) (hF : f.Params.length < F) (h : ∀ c ∈ f.Params, LT F c.Type_) (w : Int) (hw : -4294967296 ≤ w) (hw2 : w ≤ 1048576) {R : Option Int → Prop}
    (hK : ∀ s, s ≤ w → min w 0 - 4194304 ≤ s → R (K s)) : R (R04_LightProg_L3 F f K F w 0) := by
  refine loop_ok f.Params (fun n s k => R04_LightProg_L3 F f K n s k) (fun k s => s ≤ w ∧ min w 0 - 4194304 ≤ s) R ?_ ?_ F w hF ⟨Int.le_refl _, by omega⟩
  · intro n s ⟨p1, p2⟩
    rw [R04_LightProg_L3]
    simp only [dec_end, Bool.false_and, cond_false]
    exact hK s p1 p2
  · intro n s k x hx ⟨p1, p2⟩ next
    rw [R04_LightProg_L3]
    simp only [dec_lt hx, Bool.true_and]
    cases hs : decide (0 ≤ s) with
    | false => exact hK s p1 p2
    | true =>
      simp only [decide_eq_true_eq] at hs
      simp only [cond_true, idx_nat, hx, Option.bind_some]
      have hn := name_part x.Name.size
      rw [wrap_ok (by omega) (by omega)]
      obtain ⟨r, hr, q1, q2, q3⟩ := h x (List.mem_of_getElem? hx) (s - (if 1048576 < (x.Name.size : Int) then 1048576 else (x.Name.size : Int))) ⟨by omega, by omega⟩
      rw [hr]
      simp only [Option.bind_some]
      rw [wrapK hx hl]
      exact next r ⟨by omega, by omega⟩

theorem funsL {F : Nat} {p : api_Prog} {K : Int → Option Int} (hl : p.Funs.length ≤ maxLen) (hF : p.Funs.length < F) (hc : ∀ f ∈ p.Funs, f.Params.length ≤ maxLen ∧ f.Params.length < F ∧ (∀ c ∈ f.Params, LT F c.Type_) ∧ LT F f.Result ∧ LE F f.Body) (w : Int) (hw : -4294967296 ≤ w) (hw2 : w ≤ 1048576) {R : Option Int → Prop}
    (hK : ∀ s, s ≤ w → min w 0 - 16777216 ≤ s → R (K s)) : R (R04_LightProg_L2 F p K F w 0) := by
  refine loop_ok p.Funs (fun n s k => R04_LightProg_L2 F p K n s k) (fun k s => s ≤ w ∧ min w 0 - 16777216 ≤ s) R ?_ ?_ F w hF ⟨Int.le_refl _, by omega⟩
  · intro n s ⟨p1, p2⟩
    rw [R04_LightProg_L2]
    simp only [dec_end, Bool.false_and, cond_false]
    exact hK s p1 p2
  · intro n s k x hx ⟨p1, p2⟩ next
    rw [R04_LightProg_L2]
    simp only [dec_lt hx, Bool.true_and]
    cases hs : decide (0 ≤ s) with
    | false => exact hK s p1 p2
    | true =>
      simp only [decide_eq_true_eq] at hs
      simp only [cond_true, idx_nat, hx, Option.bind_some, joinM]
      obtain ⟨c1, c2, c3, c4, c5⟩ := hc x (List.mem_of_getElem? hx)
      have hn := name_part x.Name.size
      have e1 : IntKind.i64.wrap (s - 1) = s - 1 := wrap_ok (by omega) (by omega)
      rw [e1, wrap_ok (x := s - 1 - _) (by omega) (by omega)]
      obtain ⟨r, hr, q1, q2, q3⟩ := c4 (s - 1 - (if 1048576 < (x.Name.size : Int) then 1048576 else (x.Name.size : Int))) ⟨by omega, by omega⟩
      rw [hr]
      simp only [Option.bind_some]
      obtain ⟨r2, hr2, q4, q5, q6⟩ := c5 r ⟨by omega, by omega⟩
      rw [hr2]
      simp only [Option.bind_some]
      have hr2' : -8388608 ≤ r2 := by
        rcases Int.lt_or_le r 0 with h' | h'
        · have := q5 h'; omega
        · have := q4 h'; omega
      refine paramsL c1 c2 c3 _ (by omega) (by omega) fun s' g1 g2 => ?_
      rw [wrapK hx hl]
      exact next s' ⟨by omega, by omega⟩

theorem handsL {F : Nat} {p : api_Prog} (hl : p.Hands.length ≤ maxLen) (hF : p.Hands.length < F) (hc : ∀ f ∈ p.Hands, LT F f.Param.Type_ ∧ LE F f.Body) (w : Int) (hw : -4294967296 ≤ w) (hw2 : w ≤ 1048576) {R : Option Int → Prop}
    (hK : ∀ s, s ≤ w → R (some s)) : R (R04_LightProg_L4 F p F w 0) := by
  refine loop_ok p.Hands (fun n s k => R04_LightProg_L4 F p n s k) (fun k s => s ≤ w) R ?_ ?_ F w hF (Int.le_refl _)
  · intro n s p1
    rw [R04_LightProg_L4]
    simp only [dec_end, Bool.false_and, cond_false]
    exact hK s p1
  · intro n s k x hx p1 next
    rw [R04_LightProg_L4]
    simp only [dec_lt hx, Bool.true_and]
    cases hs : decide (0 ≤ s) with
    | false => exact hK s p1
    | true =>
      simp only [decide_eq_true_eq] at hs
      simp only [cond_true, idx_nat, hx, Option.bind_some]
      obtain ⟨c4, c5⟩ := hc x (List.mem_of_getElem? hx)
      have hn := name_part x.Name.size
      have hn2 := name_part x.Param.Name.size
      have e1 : IntKind.i64.wrap (s - 1) = s - 1 := wrap_ok (by omega) (by omega)
      rw [e1, wrap_ok (x := s - 1 - _) (by omega) (by omega), wrap_ok (by omega) (by omega)]
      obtain ⟨r, hr, q1, q2, q3⟩ := c4 (s - 1 - (if 1048576 < (x.Name.size : Int) then 1048576 else (x.Name.size : Int)) - (if 1048576 < (x.Param.Name.size : Int) then 1048576 else (x.Param.Name.size : Int))) ⟨by omega, by omega⟩
      rw [hr]
      simp only [Option.bind_some]
      obtain ⟨r2, hr2, q4, q5, q6⟩ := c5 r ⟨by omega, by omega⟩
      rw [hr2]
      simp only [Option.bind_some]
      rw [wrapK hx hl]
      exact next r2 (by omega)

theorem lightProg_ok (p : api_Prog) (hw : W51 p) : Evt fun F => ∃ r, R04_LightProg F p 2000 = some r ∧ (0 ≤ r → szD p.Datas ≤ 2000) := by
  obtain ⟨⟨w1, w2⟩, ⟨w3, w4⟩, _, _, w5, _, w6, w7, w8⟩ := hw
  have hD : ∀ d ∈ p.Datas, Evt fun F => d.Cons.length ≤ maxLen ∧ d.Cons.length < F ∧ ∀ c ∈ d.Cons, LT F (conT c) := fun d hd => by
    obtain ⟨_, _, g1, g2⟩ := w2 d hd
    exact ((Evt.ge (d.Cons.length + 1)).and (Evt.all fun c hc => lightType_ok (conT c) (conT_W (g2 c hc)))).mono fun F ⟨a, b⟩ => ⟨g1, a, b⟩
  have hFn : ∀ f ∈ p.Funs, Evt fun F => f.Params.length ≤ maxLen ∧ f.Params.length < F ∧ (∀ c ∈ f.Params, LT F c.Type_) ∧ LT F f.Result ∧ LE F f.Body := fun f hf => by
    obtain ⟨_, _, ⟨g1, g2⟩, g3, g4⟩ := w4 f hf
    exact (((Evt.ge (f.Params.length + 1)).and (Evt.all fun c hc => lightType_ok c.Type_ (g2 c hc).2)).and ((lightType_ok f.Result g3).and (light_ok f.Body g4))).mono fun F ⟨⟨a, b⟩, c, d⟩ => ⟨g1, a, b, c, d⟩
  have hH : ∀ f ∈ p.Hands, Evt fun F => LT F f.Param.Type_ ∧ LE F f.Body := fun f hf => by
    obtain ⟨_, _, ⟨_, g3⟩, _, g4⟩ := w8 f hf
    exact (lightType_ok _ g3).and (light_ok f.Body g4)
  refine (((Evt.all hD).and ((Evt.all hFn).and (Evt.all hH))).and (((lightType_ok p.State w5).and (light_ok p.Init w6)).and ((Evt.ge (p.Datas.length + 1)).and ((Evt.ge (p.Funs.length + 1)).and (Evt.ge (p.Hands.length + 1)))))).mono ?_
  rintro F ⟨⟨a1, a2, a3⟩, ⟨a4, a5⟩, a6, a7, a8⟩
  rw [R04_LightProg]
  obtain ⟨r, hr, q1, q2, q3⟩ := a4 2000 ⟨by omega, by omega⟩
  rw [hr]
  simp only [Option.bind_some]
  obtain ⟨r2, hr2, q4, q5, q6⟩ := a5 r ⟨by omega, by omega⟩
  rw [hr2]
  simp only [Option.bind_some, joinM]
  have hr2' : -8388608 ≤ r2 := by
    rcases Int.lt_or_le r 0 with h' | h'
    · have := q5 h'; omega
    · have := q4 h'; omega
  refine datasL w1 a6 a1 r2 (by omega) (by omega) (R := fun o => ∃ r, o = some r ∧ (0 ≤ r → szD p.Datas ≤ 2000)) fun s g1 g2 g3 => ?_
  refine funsL w3 a7 a2 s (by omega) (by omega) (R := fun o => ∃ r, o = some r ∧ (0 ≤ r → szD p.Datas ≤ 2000)) fun s2 g4 g5 => ?_
  exact handsL w7 a8 a3 s2 (by omega) (by omega) (R := fun o => ∃ r, o = some r ∧ (0 ≤ r → szD p.Datas ≤ 2000)) fun s3 g6 => ⟨s3, rfl, fun h => by have := g3 (by omega); omega⟩

end Go.Proofs.Ytappiofmkoelnaa.M
