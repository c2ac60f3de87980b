/-
  How light types are; what is found by a name.
-/
import Derived.Test.YtappiofmkoelnaaTyM
import Derived.Test.YtappiofmkoelnaaTyO
namespace Go.Proofs.Ytappiofmkoelnaa.M
open Go.Proofs.YtappiofmkoelnaaW.Ah Go.Proofs.Ytappiofmkoelnaa
set_option linter.unusedVariables false
set_option linter.unusedSimpArgs false

theorem idx_nat {α : Type} (xs : List α) (k : Nat) : idx xs (k : Int) = xs[k]? := by simp [idx]
theorem idx_mid {α : Type} (pre : List α) (t : α) (l : List α) : idx (pre ++ t :: l) (pre.length : Int) = some t := by rw [idx_nat]; simp
theorem wrapS (n : Nat) (h : n < 9223372036854775807) : IntKind.i64.wrap ((n : Int) + 1) = ((n + 1 : Nat) : Int) := wrap_succ n (by omega)
theorem lt_mid {α : Type} (pre : List α) (t : α) (l : List α) : decide ((pre.length : Int) < ((pre ++ t :: l).length : Int)) = true := by simp; omega
theorem lt_end {α : Type} (pre : List α) : decide ((pre.length : Int) < ((pre ++ []).length : Int)) = false := by simp
theorem big {n : Nat} (h : n ≤ maxLen) : n ≤ 9223372036854775807 := Nat.le_trans h (by decide)

/-- From some number on. -/
def Evt (p : Nat → Prop) : Prop := ∃ N, ∀ F, N ≤ F → p F
theorem Evt.of {p : Nat → Prop} (h : ∀ F, p F) : Evt p := ⟨0, fun F _ => h F⟩
theorem Evt.ge (n : Nat) : Evt (fun F => n ≤ F) := ⟨n, fun _ h => h⟩
theorem Evt.and {p q : Nat → Prop} (h : Evt p) (g : Evt q) : Evt (fun F => p F ∧ q F) :=
  let ⟨a, ha⟩ := h; let ⟨b, hb⟩ := g; ⟨max a b, fun F hF => ⟨ha F (by omega), hb F (by omega)⟩⟩
theorem Evt.mono {p q : Nat → Prop} (h : Evt p) (g : ∀ F, p F → q F) : Evt q := let ⟨a, ha⟩ := h; ⟨a, fun F hF => g F (ha F hF)⟩
theorem Evt.all {α : Type} {p : α → Nat → Prop} : ∀ {l : List α}, (∀ x ∈ l, Evt (p x)) → Evt (fun F => ∀ x ∈ l, p x F)
  | [], _ => .of fun F x hx => by cases hx
  | a :: l, h => ((h a (by simp)).and (Evt.all (l := l) fun x hx => h x (by simp [hx]))).mono fun F ⟨h1, h2⟩ x hx => by
    rcases List.mem_cons.1 hx with rfl | hx
    · exact h1
    · exact h2 x hx
theorem Evt.succ {p : Nat → Prop} (h : Evt p) : Evt (fun F => ∃ F', F = F' + 1 ∧ p F') := let ⟨a, ha⟩ := h; ⟨a + 1, fun F hF => ⟨F - 1, by omega, ha _ (by omega)⟩⟩
theorem Evt.ex {p : Nat → Prop} (h : Evt p) : ∃ F, p F := let ⟨a, ha⟩ := h; ⟨a, ha a (Nat.le_refl _)⟩

theorem lightType_loop {ρ : api_Type → Int → Option Int} {F : Nat} {a : api_Type} (hl : a.Parts.length ≤ maxLen) (h : ∀ x ∈ a.Parts, ∀ v, ∃ r, ρ x v = some r) : ∀ (post pre : List api_Type) (n : Nat) (v : Int), a.Parts = pre ++ post → post.length < n → ∃ r, R04_LightType_L0 F ρ a n v (pre.length : Int) = some r
  | [], pre, 0, v, e, hn => by simp at hn
  | [], pre, n + 1, v, e, hn => by
    rw [R04_LightType_L0]
    have : decide ((pre.length : Int) < (a.Parts.length : Int)) = false := by rw [e]; simp
    rw [this]; exact ⟨v, rfl⟩
  | t :: post, pre, 0, v, e, hn => by simp at hn
  | t :: post, pre, n + 1, v, e, hn => by
    rw [R04_LightType_L0]
    cases hc : (decide ((pre.length : Int) < (a.Parts.length : Int)) && decide (0 ≤ v)) with
    | false => exact ⟨v, rfl⟩
    | true =>
      rw [e, idx_mid]
      simp only [cond_true, Option.bind_some]
      obtain ⟨r1, h1⟩ := h t (by rw [e]; simp) v
      rw [h1]
      simp only [Option.bind_some]
      have := lightType_loop (F := F) hl h post (pre ++ [t]) n r1 (by simp [e]) (by simp at hn; omega)
      rw [wrapS _ (by have := big hl; rw [e] at this; simp at this; omega)]
      simpa using this

theorem lightType_ev : ∀ (t : api_Type), W40 t → Evt fun F => ∀ v, ∃ r, R04_LightType F t v = some r
  | ⟨k, nm, parts⟩, hw => by
    obtain ⟨_, _, hl, hp⟩ := (W40_iff _).1 hw
    have ih : ∀ p ∈ parts, Evt fun F => ∀ v, ∃ r, R04_LightType F p v = some r := fun p hpm => lightType_ev p (hp p hpm)
    refine (((Evt.all ih).and (Evt.ge (parts.length + 1))).succ).mono ?_
    rintro F ⟨F', rfl, h1, h2⟩ v
    rw [R04_LightType, R04_LightType_B]
    exact lightType_loop (a := ⟨k, nm, parts⟩) hl h1 parts [] F' _ rfl h2
termination_by t => t
decreasing_by
  have := List.sizeOf_lt_of_mem hpm
  simp only [api_Type.mk.sizeOf_spec]
  omega

/-- A constructor, as a type whose parts are its fields. -/
abbrev conT (c : api_Con) : api_Type := ⟨0, c.Name, c.Fields⟩

theorem light_cons {F : Nat} {a : List api_Data} {i : Nat} {K : Int → Option Bool} {d : api_Data} (hd : a[i]? = some d) (hl : d.Cons.length ≤ maxLen) (h : ∀ c ∈ d.Cons, ∀ v, ∃ r, R04_LightType F (conT c) v = some r) : ∀ (post pre : List api_Con) (n : Nat) (v : Int), d.Cons = pre ++ post → post.length < n →
    ∃ w, L07_light_L1 F a (i : Int) K n v (pre.length : Int) = K w
  | [], pre, 0, v, e, hn => by simp at hn
  | [], pre, n + 1, v, e, hn => by
    rw [L07_light_L1, idx_nat, hd]
    have : decide ((pre.length : Int) < (d.Cons.length : Int)) = false := by rw [e]; simp
    simp only [Option.bind_some]
    rw [this]; exact ⟨v, rfl⟩
  | t :: post, pre, 0, v, e, hn => by simp at hn
  | t :: post, pre, n + 1, v, e, hn => by
    rw [L07_light_L1, idx_nat, hd]
    simp only [Option.bind_some]
    cases hc : (decide ((pre.length : Int) < (d.Cons.length : Int)) && decide (0 ≤ v)) with
    | false => exact ⟨v, rfl⟩
    | true =>
      rw [e, idx_mid]
      simp only [cond_true, Option.bind_some]
      obtain ⟨r1, h1⟩ := h t (by rw [e]; simp) v
      rw [h1]
      simp only [Option.bind_some]
      have := light_cons (K := K) hd hl h post (pre ++ [t]) n r1 (by simp [e]) (by simp at hn; omega)
      rw [wrapS _ (by have := big hl; rw [e] at this; simp at this; omega)]
      simpa using this

theorem light_loop {F : Nat} {a : List api_Data} {K : Int → Option Bool} (hl : a.length ≤ maxLen) (hc : ∀ d ∈ a, d.Cons.length ≤ maxLen ∧ d.Cons.length < F) (h : ∀ d ∈ a, ∀ c ∈ d.Cons, ∀ v, ∃ r, R04_LightType F (conT c) v = some r) : ∀ (post pre : List api_Data) (n : Nat) (v : Int), a = pre ++ post → post.length < n →
    ∃ w, L07_light_L0 F a K n v (pre.length : Int) = K w
  | [], pre, 0, v, e, hn => by simp at hn
  | [], pre, n + 1, v, e, hn => by
    rw [L07_light_L0]
    have : decide ((pre.length : Int) < (a.length : Int)) = false := by rw [e]; simp
    rw [this]; exact ⟨v, rfl⟩
  | t :: post, pre, 0, v, e, hn => by simp at hn
  | t :: post, pre, n + 1, v, e, hn => by
    rw [L07_light_L0]
    cases hcc : (decide ((pre.length : Int) < (a.length : Int)) && decide (0 ≤ v)) with
    | false => exact ⟨v, rfl⟩
    | true =>
      have hm : t ∈ a := by rw [e]; simp
      have hd : a[pre.length]? = some t := by rw [e]; simp
      rw [idx_nat, hd]
      simp only [cond_true, Option.bind_some, joinM]
      obtain ⟨w, hw⟩ := light_cons (K := fun v8 => L07_light_L0 F a K n v8 (IntKind.i64.wrap ((pre.length : Int) + 1))) hd (hc t hm).1 (h t hm) t.Cons [] F (IntKind.i64.wrap (v - IntKind.i64.wrap (1 + if 2000 < (t.Name.size : Int) then 2000 else (t.Name.size : Int)))) rfl (hc t hm).2
      rw [show (([] : List api_Con).length : Int) = 0 from rfl] at hw
      have := light_loop (K := K) hl hc h post (pre ++ [t]) n w (by simp [e]) (by simp at hn; omega)
      obtain ⟨w', hw'⟩ := this
      refine ⟨w', ?_⟩
      refine Eq.trans hw ?_
      rw [wrapS _ (by have := big hl; rw [e] at this; simp at this; omega)]
      simpa using hw'

theorem light_ev {a : List api_Data} (hw : W22 a) : Evt fun F => ∃ b, L07_light F a = some b ∧ (b = true → a.length ≤ 60) := by
  have h1 : ∀ d ∈ a, Evt fun F => ∀ c ∈ d.Cons, ∀ v, ∃ r, R04_LightType F (conT c) v = some r := by
    intro d hd
    refine Evt.all fun c hc => lightType_ev (conT c) ?_
    have := ((hw.2 d hd).2.2.2 c hc)
    exact (W40_iff _).2 ⟨(show IntKind.i64.min ≤ 0 ∧ 0 ≤ IntKind.i64.max by decide), this.1, this.2⟩
  have h2 : ∀ d ∈ a, Evt fun F => d.Cons.length ≤ maxLen ∧ d.Cons.length < F := fun d hd => ⟨d.Cons.length + 1, fun F hF => ⟨(hw.2 d hd).2.2.1, by omega⟩⟩
  refine (((Evt.all h1).and (Evt.all h2)).and (Evt.ge (a.length + 1))).mono ?_
  rintro F ⟨⟨g1, g2⟩, g3⟩
  obtain ⟨w, h⟩ := light_loop (F := F) (K := fun v1 => some (decide (0 ≤ v1) && decide ((a.length : Int) ≤ 60))) hw.1 g2 g1 a [] F 2000 rfl g3
  refine ⟨_, by rw [L07_light]; simp only [joinM]; simpa using h, fun hb => ?_⟩
  simp at hb
  omega

/-- Where the first stands of which something is so. -/
def at1 {α : Type} (p : α → Bool) (l : List α) : Int := match l.findIdx? p with | some i => i | none => -1

theorem indexData_loop {F : Nat} {a : List api_Data} {φ : api_Data → Option Bool} {p : api_Data → Bool} (hφ : ∀ x ∈ a, φ x = some (p x)) (hl : a.length ≤ maxLen) : ∀ (post pre : List api_Data) (n : Nat), a = pre ++ post → post.length < n →
    slices_IndexFunc_api_Data_api_Data_L0 F a φ n (pre.length : Int) = some (match post.findIdx? p with | some i => ((pre.length + i : Nat) : Int) | none => -1)
  | [], pre, 0, e, hn => by simp at hn
  | [], pre, n + 1, e, hn => by
    rw [slices_IndexFunc_api_Data_api_Data_L0]
    have : decide ((pre.length : Int) < (a.length : Int)) = false := by rw [e]; simp
    rw [this]; rfl
  | t :: post, pre, 0, e, hn => by simp at hn
  | t :: post, pre, n + 1, e, hn => by
    rw [slices_IndexFunc_api_Data_api_Data_L0]
    have : decide ((pre.length : Int) < (a.length : Int)) = true := by rw [e]; simp; omega
    rw [this, e, idx_mid, ← e]
    simp only [cond_true, Option.bind_some]
    rw [hφ t (by rw [e]; simp)]
    simp only [Option.bind_some, List.findIdx?_cons]
    cases p t with
    | true => simp
    | false =>
      have ih := indexData_loop (F := F) hφ hl post (pre ++ [t]) n (by simp [e]) (by simp at hn; omega)
      rw [wrapS _ (by have := big hl; rw [e] at this; simp at this; omega)]
      simp only [cond_false]
      rw [show ((pre.length + 1 : Nat) : Int) = ((pre ++ [t]).length : Int) by simp, ih]
      simp only [Bool.false_eq_true, if_false]
      cases post.findIdx? p with
      | none => rfl
      | some i =>
        simp only [List.length_append, List.length_cons, List.length_nil, Option.map_some]
        congr 2
        omega

theorem indexData_ok {F : Nat} {a : List api_Data} {φ : api_Data → Option Bool} {p : api_Data → Bool} (hφ : ∀ x ∈ a, φ x = some (p x)) (hl : a.length ≤ maxLen) (hF : a.length < F) : slices_IndexFunc_api_Data_api_Data F a φ = some (at1 p a) := by
  have := indexData_loop (F := F) hφ hl a [] F rfl hF
  rw [slices_IndexFunc_api_Data_api_Data]
  simpa [at1] using this

theorem indexCon_loop {F : Nat} {a : List api_Con} {φ : api_Con → Option Bool} {p : api_Con → Bool} (hφ : ∀ x ∈ a, φ x = some (p x)) (hl : a.length ≤ maxLen) : ∀ (post pre : List api_Con) (n : Nat), a = pre ++ post → post.length < n →
    slices_IndexFunc_api_Con_api_Con_L0 F a φ n (pre.length : Int) = some (match post.findIdx? p with | some i => ((pre.length + i : Nat) : Int) | none => -1)
  | [], pre, 0, e, hn => by simp at hn
  | [], pre, n + 1, e, hn => by
    rw [slices_IndexFunc_api_Con_api_Con_L0]
    have : decide ((pre.length : Int) < (a.length : Int)) = false := by rw [e]; simp
    rw [this]; rfl
  | t :: post, pre, 0, e, hn => by simp at hn
  | t :: post, pre, n + 1, e, hn => by
    rw [slices_IndexFunc_api_Con_api_Con_L0]
    have : decide ((pre.length : Int) < (a.length : Int)) = true := by rw [e]; simp; omega
    rw [this, e, idx_mid, ← e]
    simp only [cond_true, Option.bind_some]
    rw [hφ t (by rw [e]; simp)]
    simp only [Option.bind_some, List.findIdx?_cons]
    cases p t with
    | true => simp
    | false =>
      have ih := indexCon_loop (F := F) hφ hl post (pre ++ [t]) n (by simp [e]) (by simp at hn; omega)
      rw [wrapS _ (by have := big hl; rw [e] at this; simp at this; omega)]
      simp only [cond_false]
      rw [show ((pre.length + 1 : Nat) : Int) = ((pre ++ [t]).length : Int) by simp, ih]
      simp only [Bool.false_eq_true, if_false]
      cases post.findIdx? p with
      | none => rfl
      | some i =>
        simp only [List.length_append, List.length_cons, List.length_nil, Option.map_some]
        congr 2
        omega

theorem indexCon_ok {F : Nat} {a : List api_Con} {φ : api_Con → Option Bool} {p : api_Con → Bool} (hφ : ∀ x ∈ a, φ x = some (p x)) (hl : a.length ≤ maxLen) (hF : a.length < F) : slices_IndexFunc_api_Con_api_Con F a φ = some (at1 p a) := by
  have := indexCon_loop (F := F) hφ hl a [] F rfl hF
  rw [slices_IndexFunc_api_Con_api_Con]
  simpa [at1] using this

abbrev hasName (s : ByteArray) (d : api_Data) : Bool := d.Name.toList == s.toList
abbrev conName (s : ByteArray) (c : api_Con) : Bool := c.Name.toList == s.toList

theorem find_ok {F : Nat} {a : List api_Data} (s : ByteArray) (hl : a.length ≤ maxLen) (hF : a.length < F) : ty_Find F a s = some (at1 (hasName s) a) := by
  rw [ty_Find, indexData_ok (p := hasName s) (fun x _ => by rw [ty_Find_1]) hl hF]
  rfl

/-- The first constructor of a name: its type's number, its own. -/
def conAt (s : ByteArray) : List api_Data → Nat → Option (Nat × Nat)
  | [], _ => none
  | d :: l, i =>
    match d.Cons.findIdx? (conName s) with
    | some k => some (i, k)
    | none => conAt s l (i + 1)

theorem con_loop {F : Nat} {a : List api_Data} (s : ByteArray) (hl : a.length ≤ maxLen) (hc : ∀ d ∈ a, d.Cons.length ≤ maxLen ∧ d.Cons.length < F) : ∀ (post pre : List api_Data) (n : Nat), a = pre ++ post → post.length < n →
    ty_Con_L0 F a s n (pre.length : Int) = some (match conAt s post pre.length with | some (i, k) => ((i : Int), (k : Int), true) | none => (0, 0, false))
  | [], pre, 0, e, hn => by simp at hn
  | [], pre, n + 1, e, hn => by
    rw [ty_Con_L0]
    have : decide ((pre.length : Int) < (a.length : Int)) = false := by rw [e]; simp
    rw [this]; rfl
  | t :: post, pre, 0, e, hn => by simp at hn
  | t :: post, pre, n + 1, e, hn => by
    rw [ty_Con_L0]
    have : decide ((pre.length : Int) < (a.length : Int)) = true := by rw [e]; simp; omega
    have hm : t ∈ a := by rw [e]; simp
    rw [this, e, idx_mid, ← e]
    simp only [cond_true, Option.bind_some]
    rw [indexCon_ok (p := conName s) (fun x _ => by rw [ty_Con_1]) (hc t hm).1 (hc t hm).2]
    simp only [Option.bind_some, at1, conAt]
    cases t.Cons.findIdx? (conName s) with
    | some k => simp
    | none =>
      have ih := con_loop s hl hc post (pre ++ [t]) n (by simp [e]) (by simp at hn; omega)
      rw [wrapS _ (by have := big hl; rw [e] at this; simp at this; omega)]
      simp only [show decide ((0 : Int) ≤ -1) = false from rfl, cond_false]
      rw [show ((pre.length + 1 : Nat) : Int) = ((pre ++ [t]).length : Int) by simp, ih]
      simp

theorem con_ok {F : Nat} {a : List api_Data} (s : ByteArray) (hl : a.length ≤ maxLen) (hF : a.length < F) (hc : ∀ d ∈ a, d.Cons.length ≤ maxLen ∧ d.Cons.length < F) :
    ty_Con F a s = some (match conAt s a 0 with | some (i, k) => ((i : Int), (k : Int), true) | none => (0, 0, false)) := by
  have := con_loop s hl hc a [] F rfl hF
  rw [ty_Con]
  simpa using this

theorem conAt_some {s : ByteArray} : ∀ {l : List api_Data} {n i k : Nat}, conAt s l n = some (i, k) → ∃ d c, n ≤ i ∧ l[i - n]? = some d ∧ d.Cons[k]? = some c ∧ conName s c = true ∧ (∀ q, q < k → ∀ x, d.Cons[q]? = some x → conName s x = false) ∧ ∀ j, j < i - n → ∀ e, l[j]? = some e → ∀ x ∈ e.Cons, conName s x = false
  | [], n, i, k, h => by cases h
  | d :: l, n, i, k, h => by
    simp only [conAt] at h
    split at h
    · rename_i k' hk
      cases h
      obtain ⟨h1, h2, h3⟩ := List.findIdx?_eq_some_iff_getElem.1 hk
      refine ⟨d, d.Cons[k], Nat.le_refl _, by simp, by simp [h1], h2, fun q hq x hx => ?_, fun j hj => by omega⟩
      have := h3 q hq
      obtain ⟨g1, g2⟩ := List.getElem?_eq_some_iff.1 hx
      rw [g2] at this; simpa using this
    · rename_i hk
      obtain ⟨d', c, h1, h2, h3, h4, h5, h6⟩ := conAt_some h
      refine ⟨d', c, by omega, ?_, h3, h4, h5, fun j hj e he => ?_⟩
      · rw [show i - n = (i - (n + 1)) + 1 by omega]; simpa using h2
      · cases j with
        | zero =>
          simp at he; subst he
          intro x hx
          have := List.findIdx?_eq_none_iff.1 hk x hx
          simpa using this
        | succ j => exact h6 j (by omega) e (by simpa using he)

theorem conAt_none {s : ByteArray} : ∀ {l : List api_Data} {n : Nat}, conAt s l n = none → ∀ d ∈ l, ∀ x ∈ d.Cons, conName s x = false
  | [], n, _, d, hd => by cases hd
  | d :: l, n, h, e, he => by
    simp only [conAt] at h
    split at h
    · cases h
    · rename_i hk
      rcases List.mem_cons.1 he with rfl | he
      · intro x hx
        have := List.findIdx?_eq_none_iff.1 hk x hx
        simpa using this
      · exact conAt_none h e he

theorem at1_some {α : Type} {p : α → Bool} {l : List α} (h : 0 ≤ at1 p l) : ∃ (i : Nat) (x : α), at1 p l = i ∧ l[i]? = some x ∧ p x = true ∧ ∀ j, j < i → ∀ y, l[j]? = some y → p y = false := by
  unfold at1 at h ⊢
  cases hf : l.findIdx? p with
  | none => rw [hf] at h; simp at h
  | some i =>
    obtain ⟨h1, h2, h3⟩ := List.findIdx?_eq_some_iff_getElem.1 hf
    refine ⟨i, l[i], rfl, by simp [h1], h2, fun j hj y hy => ?_⟩
    have := h3 j hj
    obtain ⟨g1, g2⟩ := List.getElem?_eq_some_iff.1 hy
    rw [g2] at this; simpa using this
theorem at1_none {α : Type} {p : α → Bool} {l : List α} (h : at1 p l < 0) : at1 p l = -1 ∧ ∀ y ∈ l, p y = false := by
  unfold at1 at h ⊢
  cases hf : l.findIdx? p with
  | some i => rw [hf] at h; simp at h; omega
  | none => exact ⟨rfl, fun y hy => by have := List.findIdx?_eq_none_iff.1 hf y hy; simpa using this⟩

end Go.Proofs.Ytappiofmkoelnaa.M
