/-
  How light types are; what is found by a name (again).
-/
import Derived.Test.YtappiofmkoelnaaTmM
import Derived.Test.YtappiofmkoelnaaTmO
namespace Go.Proofs.Ytappiofmkoelnaa.M
open Go.Proofs.YtappiofmkoelnaaW.Ah Go.Proofs.Ytappiofmkoelnaa
set_option linter.unusedVariables false
set_option linter.unusedSimpArgs false

theorem idx_nat {α : Type} (xs : List α) (k : Nat) : idx xs (k : Int) = xs[k]? := by simp [idx]
theorem idx_mid {α : Type} (pre : List α) (t : α) (l : List α) : idx (pre ++ t :: l) (pre.length : Int) = some t := by rw [idx_nat]; simp
theorem wrapS (n : Nat) (h : n < 9223372036854775807) : IntKind.i64.wrap ((n : Int) + 1) = ((n + 1 : Nat) : Int) := wrap_succ n (by omega)
theorem lt_mid {α : Type} (pre : List α) (t : α) (l : List α) : decide ((pre.length : Int) < ((pre ++ t :: l).length : Int)) = true := by simp; omega
theorem lt_end {α : Type} (pre : List α) : decide ((pre.length : Int) < ((pre ++ []).length : Int)) = false := by simp
theorem le_reach {n : Nat} (h : n ≤ reachBytes) : n ≤ maxLen := Nat.le_trans h (by decide)
theorem big {n : Nat} (h : n ≤ maxLen) : n ≤ 9223372036854775807 := Nat.le_trans h (by decide)

/-- From some number on. -/
def Evt (p : Nat → Prop) : Prop := ∃ N, ∀ F, N ≤ F → p F
theorem Evt.of {p : Nat → Prop} (h : ∀ F, p F) : Evt p := ⟨0, fun F _ => h F⟩
theorem Evt.ge (n : Nat) : Evt (fun F => n ≤ F) := ⟨n, fun _ h => h⟩
theorem Evt.and {p q : Nat → Prop} (h : Evt p) (g : Evt q) : Evt (fun F => p F ∧ q F) :=
  let ⟨a, ha⟩ := h; let ⟨b, hb⟩ := g; ⟨max a b, fun F hF => ⟨ha F (by omega), hb F (by omega)⟩⟩
theorem Evt.mono {p q : Nat → Prop} (h : Evt p) (g : ∀ F, p F → q F) : Evt q := let ⟨a, ha⟩ := h; ⟨a, fun F hF => g F (ha F hF)⟩
theorem Evt.all {α : Type} {p : α → Nat → Prop} : ∀ {l : List α}, (∀ x ∈ l, Evt (p x)) → Evt (fun F => ∀ x ∈ l, p x F)
  | [], _ => .of fun F x hx => by cases hx
  | a :: l, h => ((h a (by simp)).and (Evt.all (l := l) fun x hx => h x (by simp [hx]))).mono fun F ⟨h1, h2⟩ x hx => by
    rcases List.mem_cons.1 hx with rfl | hx
    · exact h1
    · exact h2 x hx
theorem Evt.succ {p : Nat → Prop} (h : Evt p) : Evt (fun F => ∃ F', F = F' + 1 ∧ p F') := let ⟨a, ha⟩ := h; ⟨a + 1, fun F hF => ⟨F - 1, by omega, ha _ (by omega)⟩⟩
theorem Evt.ex {p : Nat → Prop} (h : Evt p) : ∃ F, p F := let ⟨a, ha⟩ := h; ⟨a, ha a (Nat.le_refl _)⟩

theorem lightType_loop {ρ : api_Type → Int → Option Int} {F : Nat} {a : api_Type} (hl : a.Parts.length ≤ maxLen) (h : ∀ x ∈ a.Parts, ∀ v, ∃ r, ρ x v = some r) : ∀ (post pre : List api_Type) (n : Nat) (v : Int), a.Parts = pre ++ post → post.length < n → ∃ r, R04_LightType_L0 F ρ a n v (pre.length : Int) = some r
  | [], pre, 0, v, e, hn => by simp at hn
  | [], pre, n + 1, v, e, hn => by
    rw [R04_LightType_L0]
    have : decide ((pre.length : Int) < (a.Parts.length : Int)) = false := by rw [e]; simp
    rw [this]; exact ⟨v, rfl⟩
  | t :: post, pre, 0, v, e, hn => by simp at hn
  | t :: post, pre, n + 1, v, e, hn => by
    rw [R04_LightType_L0]
    cases hc : (decide ((pre.length : Int) < (a.Parts.length : Int)) && decide (0 ≤ v)) with
    | false => exact ⟨v, rfl⟩
    | true =>
      rw [e, idx_mid]
      simp only [cond_true, Option.bind_some]
      obtain ⟨r1, h1⟩ := h t (by rw [e]; simp) v
      rw [h1]
      simp only [Option.bind_some]
      have := lightType_loop (F := F) hl h post (pre ++ [t]) n r1 (by simp [e]) (by simp at hn; omega)
      rw [wrapS _ (by have := big hl; rw [e] at this; simp at this; omega)]
      simpa using this

theorem lightType_ev : ∀ (t : api_Type), W40 t → Evt fun F => ∀ v, ∃ r, R04_LightType F t v = some r
  | ⟨k, nm, parts⟩, hw => by
    obtain ⟨_, _, hl, hp⟩ := (W40_iff _).1 hw
    have ih : ∀ p ∈ parts, Evt fun F => ∀ v, ∃ r, R04_LightType F p v = some r := fun p hpm => lightType_ev p (hp p hpm)
    refine (((Evt.all ih).and (Evt.ge (parts.length + 1))).succ).mono ?_
    rintro F ⟨F', rfl, h1, h2⟩ v
    rw [R04_LightType, R04_LightType_B]
    exact lightType_loop (a := ⟨k, nm, parts⟩) hl h1 parts [] F' _ rfl h2
termination_by t => t
decreasing_by
  have := List.sizeOf_lt_of_mem hpm
  simp only [api_Type.mk.sizeOf_spec]
  omega

/-- A constructor, as a type whose parts are its fields. -/
abbrev conT (c : api_Con) : api_Type := ⟨0, c.Name, c.Fields⟩

theorem light_cons {F : Nat} {a : List api_Data} {i : Nat} {K : Int → Option Bool} {d : api_Data} (hd : a[i]? = some d) (hl : d.Cons.length ≤ maxLen) (h : ∀ c ∈ d.Cons, ∀ v, ∃ r, R04_LightType F (conT c) v = some r) : ∀ (post pre : List api_Con) (n : Nat) (v : Int), d.Cons = pre ++ post → post.length < n →
    ∃ w, L07_light_L1 F a (i : Int) K n v (pre.length : Int) = K w
  | [], pre, 0, v, e, hn => by simp at hn
  | [], pre, n + 1, v, e, hn => by
    rw [L07_light_L1, idx_nat, hd]
    have : decide ((pre.length : Int) < (d.Cons.length : Int)) = false := by rw [e]; simp
    simp only [Option.bind_some]
    rw [this]; exact ⟨v, rfl⟩
  | t :: post, pre, 0, v, e, hn => by simp at hn
  | t :: post, pre, n + 1, v, e, hn => by
    rw [L07_light_L1, idx_nat, hd]
    simp only [Option.bind_some]
    cases hc : (decide ((pre.length : Int) < (d.Cons.length : Int)) && decide (0 ≤ v)) with
    | false => exact ⟨v, rfl⟩
    | true =>
      rw [e, idx_mid]
      simp only [cond_true, Option.bind_some]
      obtain ⟨r1, h1⟩ := h t (by rw [e]; simp) v
      rw [h1]
      simp only [Option.bind_some]
      have := light_cons (K := K) hd hl h post (pre ++ [t]) n r1 (by simp [e]) (by simp at hn; omega)
      rw [wrapS _ (by have := big hl; rw [e] at this; simp at this; omega)]
      simpa using this

theorem light_loop {F : Nat} {a : List api_Data} {K : Int → Option Bool} (hl : a.length ≤ maxLen) (hc : ∀ d ∈ a, d.Cons.length ≤ maxLen ∧ d.Cons.length < F) (h : ∀ d ∈ a, ∀ c ∈ d.Cons, ∀ v, ∃ r, R04_LightType F (conT c) v = some r) : ∀ (post pre : List api_Data) (n : Nat) (v : Int), a = pre ++ post → post.length < n →
    ∃ w, L07_light_L0 F a K n v (pre.length : Int) = K w
  | [], pre, 0, v, e, hn => by simp at hn
  | [], pre, n + 1, v, e, hn => by
    rw [L07_light_L0]
    have : decide ((pre.length : Int) < (a.length : Int)) = false := by rw [e]; simp
    rw [this]; exact ⟨v, rfl⟩
  | t :: post, pre, 0, v, e, hn => by simp at hn
  | t :: post, pre, n + 1, v, e, hn => by
    rw [L07_light_L0]
    cases hcc : (decide ((pre.length : Int) < (a.length : Int)) && decide (0 ≤ v)) with
    | false => exact ⟨v, rfl⟩
    | true =>
      have hm : t ∈ a := by rw [e]; simp
      have hd : a[pre.length]? = some t := by rw [e]; simp
      rw [idx_nat, hd]
      simp only [cond_true, Option.bind_some, joinM]
      obtain ⟨w, hw⟩ := light_cons (K := fun v8 => L07_light_L0 F a K n v8 (IntKind.i64.wrap ((pre.length : Int) + 1))) hd (hc t hm).1 (h t hm) t.Cons [] F (IntKind.i64.wrap (v - IntKind.i64.wrap (1 + if 2000 < (t.Name.size : Int) then 2000 else (t.Name.size : Int)))) rfl (hc t hm).2
      rw [show (([] : List api_Con).length : Int) = 0 from rfl] at hw
      have := light_loop (K := K) hl hc h post (pre ++ [t]) n w (by simp [e]) (by simp at hn; omega)
      obtain ⟨w', hw'⟩ := this
      refine ⟨w', ?_⟩
      refine Eq.trans hw ?_
      rw [wrapS _ (by have := big hl; rw [e] at this; simp at this; omega)]
      simpa using hw'

theorem light_ev {a : List api_Data} (hw : W22 a) : Evt fun F => ∃ b, L07_light F a = some b ∧ (b = true → a.length ≤ 60) := by
  have h1 : ∀ d ∈ a, Evt fun F => ∀ c ∈ d.Cons, ∀ v, ∃ r, R04_LightType F (conT c) v = some r := by
    intro d hd
    refine Evt.all fun c hc => lightType_ev (conT c) ?_
    have := ((hw.2 d hd).2.2.2 c hc)
    exact (W40_iff _).2 ⟨(show IntKind.i64.min ≤ 0 ∧ 0 ≤ IntKind.i64.max by decide), this.1, this.2⟩
  have h2 : ∀ d ∈ a, Evt fun F => d.Cons.length ≤ maxLen ∧ d.Cons.length < F := fun d hd => ⟨d.Cons.length + 1, fun F hF => ⟨le_reach (hw.2 d hd).2.2.1, by omega⟩⟩
  refine (((Evt.all h1).and (Evt.all h2)).and (Evt.ge (a.length + 1))).mono ?_
  rintro F ⟨⟨g1, g2⟩, g3⟩
  obtain ⟨w, h⟩ := light_loop (F := F) (K := fun v1 => some (decide (0 ≤ v1) && decide ((a.length : Int) ≤ 60))) (le_reach hw.1) g2 g1 a [] F 2000 rfl g3
  refine ⟨_, by rw [L07_light]; simp only [joinM]; simpa using h, fun hb => ?_⟩
  simp at hb
  omega

/-- Where the first stands of which something is so. -/
def at1 {α : Type} (p : α → Bool) (l : List α) : Int := match l.findIdx? p with | some i => i | none => -1

/-- A loop through a row. -/
theorem loop_go {α σ β : Type} (xs : List α) (f : Nat → σ → Int → Option β) (P : Nat → σ → Prop) (R : Option β → Prop)
    (hend : ∀ n s, P xs.length s → R (f (n + 1) s (xs.length : Int)))
    (hstep : ∀ n s k x, xs[k]? = some x → P k s → (∀ s', P (k + 1) s' → R (f n s' ((k + 1 : Nat) : Int))) → R (f (n + 1) s (k : Int))) :
    ∀ (m n : Nat) (s : σ) (k : Nat), xs.length = k + m → m < n → P k s → R (f n s (k : Int))
  | 0, 0, s, k, _, hn, _ => by omega
  | 0, n + 1, s, k, e, _, hp => by
    rw [Nat.add_zero] at e
    subst e
    exact hend n s hp
  | m + 1, 0, s, k, _, hn, _ => by omega
  | m + 1, n + 1, s, k, e, hn, hp => by
    obtain ⟨x, hx⟩ : ∃ x, xs[k]? = some x := ⟨xs[k]'(by omega), by simp⟩
    exact hstep n s k x hx hp fun s' hs' => loop_go xs f P R hend hstep m n s' (k + 1) (by omega) (by omega) hs'
theorem loop_ok {α σ β : Type} (xs : List α) (f : Nat → σ → Int → Option β) (P : Nat → σ → Prop) (R : Option β → Prop)
    (hend : ∀ n s, P xs.length s → R (f (n + 1) s (xs.length : Int)))
    (hstep : ∀ n s k x, xs[k]? = some x → P k s → (∀ s', P (k + 1) s' → R (f n s' ((k + 1 : Nat) : Int))) → R (f (n + 1) s (k : Int)))
    (n : Nat) (s : σ) (hn : xs.length < n) (hp : P 0 s) : R (f n s 0) := by
  have := loop_go xs f P R hend hstep xs.length n s 0 (by omega) hn hp
  simpa using this

theorem lt_of_get {α : Type} {xs : List α} {k : Nat} {x : α} (h : xs[k]? = some x) : k < xs.length := (List.getElem?_eq_some_iff.1 h).1
theorem dec_lt {α : Type} {xs : List α} {k : Nat} {x : α} (h : xs[k]? = some x) : decide ((k : Int) < (xs.length : Int)) = true := by have := lt_of_get h; simp; omega
theorem dec_end {α : Type} (xs : List α) : decide ((xs.length : Int) < (xs.length : Int)) = false := by simp
theorem wrapK {α : Type} {xs : List α} {k : Nat} {x : α} (h : xs[k]? = some x) (hl : xs.length ≤ maxLen) : IntKind.i64.wrap ((k : Int) + 1) = ((k + 1 : Nat) : Int) := wrapS k (by have := lt_of_get h; have := big hl; omega)
theorem findIdx_at {α : Type} {p : α → Bool} {xs : List α} {k : Nat} {x : α} (hx : xs[k]? = some x) (hp : p x = true) (hq : ∀ j, j < k → ∀ y, xs[j]? = some y → p y = false) : xs.findIdx? p = some k := by
  rw [List.findIdx?_eq_some_iff_getElem]
  obtain ⟨h1, h2⟩ := List.getElem?_eq_some_iff.1 hx
  refine ⟨h1, by rw [h2]; exact hp, fun j hj => ?_⟩
  have := hq j hj xs[j] (by simp)
  simp [this]

/-- A search. -/
theorem search_ok {α : Type} {xs : List α} {p : α → Bool} (f : Nat → Int → Option Int) (hm : xs.length ≤ maxLen) (hend : ∀ n, f (n + 1) (xs.length : Int) = some (-1))
    (hstep : ∀ n (k : Nat) x, xs[k]? = some x → f (n + 1) (k : Int) = bif p x then some (k : Int) else f n (IntKind.i64.wrap ((k : Int) + 1))) (n : Nat) (hn : xs.length < n) : f n 0 = some (at1 p xs) := by
  have := loop_ok xs (fun n (_ : Unit) k => f n k) (fun k _ => ∀ j, j < k → ∀ x, xs[j]? = some x → p x = false) (fun o => o = some (at1 p xs)) ?_ ?_ n () hn (fun j hj => by omega)
  · exact this
  · intro n _ hp
    show f (n + 1) _ = _
    rw [hend, at1, List.findIdx?_eq_none_iff.2 fun x hx => ?_]
    obtain ⟨j, hj⟩ := List.mem_iff_getElem?.1 hx
    simpa using hp j (lt_of_get hj) x hj
  · intro n _ k x hx hp next
    show f (n + 1) _ = _
    rw [hstep n k x hx]
    cases hpx : p x with
    | true => simp only [cond_true, at1]; rw [findIdx_at hx hpx hp]
    | false =>
      simp only [cond_false]
      rw [wrapK hx hm]
      refine next () fun j hj y hy => ?_
      rcases Nat.lt_or_ge j k with h | h
      · exact hp j h y hy
      · have : j = k := by omega
        subst this; rw [hx] at hy; cases hy; exact hpx

theorem indexData_ok {F : Nat} {a : List api_Data} {φ : api_Data → Option Bool} {p : api_Data → Bool} (hφ : ∀ x ∈ a, φ x = some (p x)) (hl : a.length ≤ maxLen) (hF : a.length < F) : slices_IndexFunc_api_Data_api_Data F a φ = some (at1 p a) := by
  rw [slices_IndexFunc_api_Data_api_Data]
  refine search_ok (fun n k => slices_IndexFunc_api_Data_api_Data_L0 F a φ n k) hl (fun n => by rw [slices_IndexFunc_api_Data_api_Data_L0]; simp only [dec_end, cond_false]) (fun n k x hx => ?_) F hF
  rw [slices_IndexFunc_api_Data_api_Data_L0]
  simp only [dec_lt hx, cond_true, idx_nat, hx, hφ x (List.mem_of_getElem? hx), Option.bind_some]
theorem indexType_ok {F : Nat} {a : List api_Type} {φ : api_Type → Option Bool} {p : api_Type → Bool} (hφ : ∀ x ∈ a, φ x = some (p x)) (hl : a.length ≤ maxLen) (hF : a.length < F) : slices_IndexFunc_api_Type_api_Type F a φ = some (at1 p a) := by
  rw [slices_IndexFunc_api_Type_api_Type]
  refine search_ok (fun n k => slices_IndexFunc_api_Type_api_Type_L0 F a φ n k) hl (fun n => by rw [slices_IndexFunc_api_Type_api_Type_L0]; simp only [dec_end, cond_false]) (fun n k x hx => ?_) F hF
  rw [slices_IndexFunc_api_Type_api_Type_L0]
  simp only [dec_lt hx, cond_true, idx_nat, hx, hφ x (List.mem_of_getElem? hx), Option.bind_some]
abbrev hasName (s : ByteArray) (d : api_Data) : Bool := d.Name.toList == s.toList

theorem at1_any {α : Type} (p : α → Bool) (l : List α) : decide (0 ≤ at1 p l) = l.any p := by
  unfold at1
  cases h : l.findIdx? p with
  | none =>
    have := List.findIdx?_eq_none_iff.1 h
    have e : l.any p = false := by rw [List.any_eq_false]; intro x hx; simpa using this x hx
    rw [e]; rfl
  | some i =>
    obtain ⟨h1, h2, _⟩ := List.findIdx?_eq_some_iff_getElem.1 h
    have e : l.any p = true := List.any_eq_true.2 ⟨l[i], by simp, h2⟩
    rw [e]; simp

theorem find_ok {F : Nat} {a : List api_Data} (s : ByteArray) (hl : a.length ≤ maxLen) (hF : a.length < F) : ty_Find F a s = some (at1 (hasName s) a) := by
  rw [ty_Find, indexData_ok (p := hasName s) (fun x _ => by rw [ty_Find_1]) hl hF]
  rfl
theorem find07_ok {F : Nat} {a : List api_Data} (s : ByteArray) (hl : a.length ≤ maxLen) (hF : a.length < F) : R07_Find F a s = some (at1 (hasName s) a) := by
  rw [R07_Find]
  refine search_ok (fun n k => R07_Find_L0 F a s n k) hl (fun n => by rw [R07_Find_L0]; simp only [dec_end, cond_false]) (fun n k x hx => ?_) F hF
  rw [R07_Find_L0]
  simp only [dec_lt hx, cond_true, idx_nat, hx, Option.bind_some]

/-! Whether a type's names are known. -/
mutual
def knownT (l : List api_Data) : api_Type → Bool
  | ⟨k, n, ps⟩ => !((k == 2) && decide (at1 (hasName n) l < 0)) && knownTs l ps
def knownTs (l : List api_Data) : List api_Type → Bool
  | [] => true
  | x :: xs => knownT l x && knownTs l xs
end
theorem knownTs_all (l : List api_Data) : ∀ xs : List api_Type, knownTs l xs = xs.all (knownT l)
  | [] => rfl
  | x :: xs => by simp [knownTs, knownTs_all l xs]

theorem known_ok (l : List api_Data) (hl : l.length ≤ maxLen) : ∀ (a : api_Type), W40 a → Evt fun F => ty_Known F l a = some (knownT l a) ∧ ty_Known_1 (F + 1) a l = some (!knownT l a)
  | ⟨k, nm, ps⟩, hw => by
    obtain ⟨_, _, hlp, hp⟩ := (W40_iff _).1 hw
    have ih : ∀ p ∈ ps, Evt fun F => ty_Known F l p = some (knownT l p) ∧ ty_Known_1 (F + 1) p l = some (!knownT l p) := fun p hpm => known_ok l hl p (hp p hpm)
    have base : Evt fun F => ty_Known F l ⟨k, nm, ps⟩ = some (knownT l ⟨k, nm, ps⟩) := by
      refine ((((Evt.all ih).succ).and ((Evt.ge (ps.length + 2)).and (Evt.ge (l.length + 2)))).succ).mono ?_
      rintro F ⟨F', rfl, ⟨F2, rfl, h1⟩, h2, h3⟩
      rw [ty_Known, ty_Known_B]
      simp only [knownT, joinM, slices_ContainsFunc_api_Type_api_Type]
      rw [indexType_ok (p := fun y => !knownT l y) (fun x hx => (h1 x hx).2) hlp (by omega)]
      simp only [Option.bind_some, at1_any, knownTs_all]
      have e : (!(ps.any fun y => !knownT l y)) = ps.all (knownT l) := by
        rw [List.not_any_eq_all_not]; simp
      cases hk : (k == 2) with
      | false => simp only [cond_false]; rw [e]; simp
      | true =>
        simp only [cond_true]
        rw [find_ok nm hl (by omega)]
        simp only [Option.bind_some]
        cases hd : decide (at1 (hasName nm) l < 0) with
        | true => simp
        | false => simp only [cond_false]; rw [e]; simp
    obtain ⟨N, hN⟩ := base
    refine ⟨N, fun F hF => ⟨hN F hF, ?_⟩⟩
    rw [ty_Known_1, ty_Known_1_B, hN F hF]
    rfl
termination_by t => t
decreasing_by
  have := List.sizeOf_lt_of_mem hpm
  simp only [api_Type.mk.sizeOf_spec]
  omega

end Go.Proofs.Ytappiofmkoelnaa.M
