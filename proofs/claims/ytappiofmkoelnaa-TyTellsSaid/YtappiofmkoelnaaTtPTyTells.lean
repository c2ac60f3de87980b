/-
  Types by their names, and whether two are the same, are the document's.
-/
import Derived.Test.YtappiofmkoelnaaTtPL
namespace Go.Proofs.Ytappiofmkoelnaa.M
open Go.Proofs.YtappiofmkoelnaaW.Ah Go.Proofs.Ytappiofmkoelnaa
set_option linter.unusedVariables false
set_option linter.unusedSimpArgs false

/-! Whether two types are the same. -/
mutual
def sameT : api_Type → api_Type → Bool
  | ⟨k, n, ps⟩, b => ((k == b.Kind) && (n.toList == b.Name.toList)) && sameTs ps b.Parts
def sameTs : List api_Type → List api_Type → Bool
  | [], [] => true
  | x :: xs, y :: ys => sameT x y && sameTs xs ys
  | [], _ :: _ => false
  | _ :: _, [] => false
end
mutual
theorem sameT_refl : ∀ a : api_Type, sameT a a = true
  | ⟨k, n, ps⟩ => by simp [sameT, sameTs_refl ps]
theorem sameTs_refl : ∀ xs : List api_Type, sameTs xs xs = true
  | [] => rfl
  | x :: xs => by simp [sameTs, sameT_refl x, sameTs_refl xs]
end
theorem sameTs_len : ∀ {xs ys : List api_Type}, sameTs xs ys = true → xs.length = ys.length
  | [], [], _ => rfl
  | x :: xs, y :: ys, h => by simp only [sameTs, Bool.and_eq_true] at h; simp [sameTs_len h.2]
  | [], _ :: _, h => by simp [sameTs] at h
  | _ :: _, [], h => by simp [sameTs] at h
/-- One behind the other. -/
theorem sameTs_iff : ∀ {xs ys : List api_Type}, xs.length = ys.length → (sameTs xs ys = true ↔ ∀ (k : Nat) x y, xs[k]? = some x → ys[k]? = some y → sameT x y = true)
  | [], [], _ => by simp [sameTs]
  | x :: xs, y :: ys, hl => by
    simp only [sameTs, Bool.and_eq_true, sameTs_iff (xs := xs) (ys := ys) (by simpa using hl)]
    constructor
    · rintro ⟨h1, h2⟩ k a b ha hb
      cases k with
      | zero => simp at ha hb; subst ha; subst hb; exact h1
      | succ k => simp at ha hb; exact h2 k a b ha hb
    · intro h
      exact ⟨h 0 x y (by simp) (by simp), fun k a b ha hb => h (k + 1) a b (by simpa using ha) (by simpa using hb)⟩
  | [], _ :: _, h => by simp at h
  | _ :: _, [], h => by simp at h

/-- A loop through two rows of one length, up to where something is not so. -/
theorem two_ok {xs ys : List api_Type} {ρ : api_Type → api_Type → Option Bool} (f : Nat → Int → Option Bool) (hl : xs.length = ys.length) (hm : xs.length ≤ maxLen) (hρ : ∀ x ∈ xs, ∀ y ∈ ys, ρ x y = some (sameT x y))
    (hend : ∀ n, f (n + 1) (xs.length : Int) = some true)
    (hstep : ∀ n (k : Nat) x y, xs[k]? = some x → ys[k]? = some y → f (n + 1) (k : Int) = (ρ x y).bind fun b => bif (!b) then some false else f n (IntKind.i64.wrap ((k : Int) + 1))) (n : Nat) (hn : xs.length < n) : f n 0 = some (sameTs xs ys) := by
  have := loop_ok xs (fun n (_ : Unit) k => f n k) (fun k _ => ∀ j, j < k → ∀ x y, xs[j]? = some x → ys[j]? = some y → sameT x y = true) (fun o => o = some (sameTs xs ys)) ?_ ?_ n () hn (fun j hj => by omega)
  · exact this
  · intro n _ hp
    show f (n + 1) _ = _
    rw [hend]
    congr 1
    refine (((sameTs_iff hl).2 fun k x y hx hy => hp k (lt_of_get hx) x y hx hy)).symm
  · intro n _ k x hx hp next
    obtain ⟨y, hy⟩ : ∃ y, ys[k]? = some y := ⟨ys[k]'(by have := lt_of_get hx; omega), by simp⟩
    show f (n + 1) _ = _
    rw [hstep n k x y hx hy, hρ x (List.mem_of_getElem? hx) y (List.mem_of_getElem? hy)]
    simp only [Option.bind_some]
    cases hs : sameT x y with
    | false =>
      simp only [Bool.not_false, cond_true]
      congr 1
      cases hq : sameTs xs ys with
      | false => rfl
      | true =>
        have := (sameTs_iff hl).1 hq k x y hx hy
        rw [hs] at this; cases this
    | true =>
      simp only [Bool.not_true, cond_false]
      rw [wrapK hx hm]
      refine next () fun j hj a b ha hb => ?_
      rcases Nat.lt_or_ge j k with h | h
      · exact hp j h a b ha hb
      · have : j = k := by omega
        subst this
        rw [hx] at ha; rw [hy] at hb; cases ha; cases hb; exact hs

/-- Types whose rows may be. -/
def Bnd (t : api_Type) : Prop := W40 t
theorem same04_ok : ∀ (a : api_Type), W40 a → Evt fun F => ∀ b, R04_SameType F a b = some (sameT a b)
  | ⟨k, nm, ps⟩, hw => by
    obtain ⟨_, _, hl, hp⟩ := (W40_iff _).1 hw
    have ih : ∀ p ∈ ps, Evt fun F => ∀ b, R04_SameType F p b = some (sameT p b) := fun p hpm => same04_ok p (hp p hpm)
    refine (((Evt.all ih).and (Evt.ge (ps.length + 1))).succ).mono ?_
    rintro F ⟨F', rfl, h1, h2⟩ b
    rw [R04_SameType, R04_SameType_B]
    simp only [sameT]
    cases hk : (k == b.Kind) with
    | false => simp only [bne, hk]; rfl
    | true =>
      cases hn : (nm.toList == b.Name.toList) with
      | false => simp only [bne, hk]; rfl
      | true =>
        cases hle : ((ps.length : Int) == (b.Parts.length : Int)) with
        | false =>
          simp only [bne, hk, hle]
          have : sameTs ps b.Parts = false := by
            cases hq : sameTs ps b.Parts with
            | false => rfl
            | true => have := sameTs_len hq; rw [this] at hle; simp at hle
          rw [this]; rfl
        | true =>
          simp only [bne, hk, hle]
          simp only [beq_iff_eq] at hle
          have := two_ok (xs := ps) (ys := b.Parts) (ρ := R04_SameType F') (fun n k' => R04_SameType_L0 F' (R04_SameType F') ⟨k, nm, ps⟩ b n k') (by omega) hl (fun x hx y _ => h1 x hx y) (fun n => by rw [R04_SameType_L0]; simp only [dec_end, cond_false])
            (fun n k' x y hx hy => by rw [R04_SameType_L0]; simp only [dec_lt hx, cond_true, idx_nat, hx, hy, Option.bind_some]) F' h2
          simpa using this
termination_by t => t
decreasing_by
  have := List.sizeOf_lt_of_mem hpm
  simp only [api_Type.mk.sizeOf_spec]
  omega

theorem same_ok : ∀ (a : api_Type), W40 a → Evt fun F => ∀ b, ty_Same F a b = some (sameT a b)
  | ⟨k, nm, ps⟩, hw => by
    obtain ⟨_, _, hl, hp⟩ := (W40_iff _).1 hw
    have ih : ∀ p ∈ ps, Evt fun F => ∀ b, ty_Same F p b = some (sameT p b) := fun p hpm => same_ok p (hp p hpm)
    refine (((Evt.all ih).and (Evt.ge (ps.length + 1))).succ).mono ?_
    rintro F ⟨F', rfl, h1, h2⟩ b
    rw [ty_Same, ty_Same_B]
    simp only [sameT, joinM]
    cases hk : ((k == b.Kind) && (nm.toList == b.Name.toList)) with
    | false => rfl
    | true =>
      simp only [cond_true, slices_EqualFunc_api_Type_api_Type_api_Type_api_Type]
      cases hle : ((ps.length : Int) == (b.Parts.length : Int)) with
      | false =>
        simp only [bne, hle]
        have : sameTs ps b.Parts = false := by
          cases hq : sameTs ps b.Parts with
          | false => rfl
          | true => have := sameTs_len hq; rw [this] at hle; simp at hle
        rw [this]; rfl
      | true =>
        simp only [bne, hle]
        simp only [beq_iff_eq] at hle
        have := two_ok (xs := ps) (ys := b.Parts) (ρ := fun y0 y1 => ty_Same F' y0 y1) (fun n k' => slices_EqualFunc_api_Type_api_Type_api_Type_api_Type_L0 F' ps b.Parts (fun y0 y1 => ty_Same F' y0 y1) n k') (by omega) hl (fun x hx y _ => h1 x hx y) (fun n => by rw [slices_EqualFunc_api_Type_api_Type_api_Type_api_Type_L0]; simp only [dec_end, cond_false])
          (fun n k' x y hx hy => by rw [slices_EqualFunc_api_Type_api_Type_api_Type_api_Type_L0]; simp only [dec_lt hx, cond_true, idx_nat, hx, hy, Option.bind_some]) F' h2
        simp only [Bool.not_true, cond_false, Bool.true_and]
        simpa using this
termination_by t => t
decreasing_by
  have := List.sizeOf_lt_of_mem hpm
  simp only [api_Type.mk.sizeOf_spec]
  omega

theorem same07_ok {F : Nat} {a b : api_Type} (h : R04_SameType F a b = some (sameT a b)) : R07_Same F a b = some (sameT a b) := by rw [R07_Same, h]; rfl

/-! Types that are found by their names. -/
abbrev hasName (s : ByteArray) (d : api_Data) : Bool := d.Name.toList == s.toList
abbrev conName (s : ByteArray) (c : api_Con) : Bool := c.Name.toList == s.toList
/-- Where the first stands of which something is so. -/
def at1 {α : Type} (p : α → Bool) (l : List α) : Int := match l.findIdx? p with | some i => i | none => -1

theorem findIdx_at {α : Type} {p : α → Bool} {xs : List α} {k : Nat} {x : α} (hx : xs[k]? = some x) (hp : p x = true) (hq : ∀ j, j < k → ∀ y, xs[j]? = some y → p y = false) : xs.findIdx? p = some k := by
  rw [List.findIdx?_eq_some_iff_getElem]
  obtain ⟨h1, h2⟩ := List.getElem?_eq_some_iff.1 hx
  refine ⟨h1, by rw [h2]; exact hp, fun j hj => ?_⟩
  have := hq j hj xs[j] (by simp)
  simp [this]

/-- A search. -/
theorem search_ok {α : Type} {xs : List α} {p : α → Bool} (f : Nat → Int → Option Int) (hm : xs.length ≤ maxLen) (hend : ∀ n, f (n + 1) (xs.length : Int) = some (-1))
    (hstep : ∀ n (k : Nat) x, xs[k]? = some x → f (n + 1) (k : Int) = bif p x then some (k : Int) else f n (IntKind.i64.wrap ((k : Int) + 1))) (n : Nat) (hn : xs.length < n) : f n 0 = some (at1 p xs) := by
  have := loop_ok xs (fun n (_ : Unit) k => f n k) (fun k _ => ∀ j, j < k → ∀ x, xs[j]? = some x → p x = false) (fun o => o = some (at1 p xs)) ?_ ?_ n () hn (fun j hj => by omega)
  · exact this
  · intro n _ hp
    show f (n + 1) _ = _
    rw [hend, at1, List.findIdx?_eq_none_iff.2 fun x hx => ?_]
    obtain ⟨j, hj⟩ := List.mem_iff_getElem?.1 hx
    simpa using hp j (lt_of_get hj) x hj
  · intro n _ k x hx hp next
    show f (n + 1) _ = _
    rw [hstep n k x hx]
    cases hpx : p x with
    | true => simp only [cond_true, at1]; rw [findIdx_at hx hpx hp]
    | false =>
      simp only [cond_false]
      rw [wrapK hx hm]
      refine next () fun j hj y hy => ?_
      rcases Nat.lt_or_ge j k with h | h
      · exact hp j h y hy
      · have : j = k := by omega
        subst this; rw [hx] at hy; cases hy; exact hpx

theorem indexData_ok {F : Nat} {a : List api_Data} {φ : api_Data → Option Bool} {p : api_Data → Bool} (hφ : ∀ x ∈ a, φ x = some (p x)) (hl : a.length ≤ maxLen) (hF : a.length < F) : slices_IndexFunc_api_Data_api_Data F a φ = some (at1 p a) := by
  rw [slices_IndexFunc_api_Data_api_Data]
  refine search_ok (fun n k => slices_IndexFunc_api_Data_api_Data_L0 F a φ n k) hl (fun n => by rw [slices_IndexFunc_api_Data_api_Data_L0]; simp only [dec_end, cond_false]) (fun n k x hx => ?_) F hF
  rw [slices_IndexFunc_api_Data_api_Data_L0]
  simp only [dec_lt hx, cond_true, idx_nat, hx, hφ x (List.mem_of_getElem? hx), Option.bind_some]
theorem indexCon_ok {F : Nat} {a : List api_Con} {φ : api_Con → Option Bool} {p : api_Con → Bool} (hφ : ∀ x ∈ a, φ x = some (p x)) (hl : a.length ≤ maxLen) (hF : a.length < F) : slices_IndexFunc_api_Con_api_Con F a φ = some (at1 p a) := by
  rw [slices_IndexFunc_api_Con_api_Con]
  refine search_ok (fun n k => slices_IndexFunc_api_Con_api_Con_L0 F a φ n k) hl (fun n => by rw [slices_IndexFunc_api_Con_api_Con_L0]; simp only [dec_end, cond_false]) (fun n k x hx => ?_) F hF
  rw [slices_IndexFunc_api_Con_api_Con_L0]
  simp only [dec_lt hx, cond_true, idx_nat, hx, hφ x (List.mem_of_getElem? hx), Option.bind_some]
theorem indexType_ok {F : Nat} {a : List api_Type} {φ : api_Type → Option Bool} {p : api_Type → Bool} (hφ : ∀ x ∈ a, φ x = some (p x)) (hl : a.length ≤ maxLen) (hF : a.length < F) : slices_IndexFunc_api_Type_api_Type F a φ = some (at1 p a) := by
  rw [slices_IndexFunc_api_Type_api_Type]
  refine search_ok (fun n k => slices_IndexFunc_api_Type_api_Type_L0 F a φ n k) hl (fun n => by rw [slices_IndexFunc_api_Type_api_Type_L0]; simp only [dec_end, cond_false]) (fun n k x hx => ?_) F hF
  rw [slices_IndexFunc_api_Type_api_Type_L0]
  simp only [dec_lt hx, cond_true, idx_nat, hx, hφ x (List.mem_of_getElem? hx), Option.bind_some]
theorem at1_any {α : Type} (p : α → Bool) (l : List α) : decide (0 ≤ at1 p l) = l.any p := by
  unfold at1
  cases h : l.findIdx? p with
  | none =>
    have := List.findIdx?_eq_none_iff.1 h
    have e : l.any p = false := by rw [List.any_eq_false]; intro x hx; simpa using this x hx
    rw [e]; rfl
  | some i =>
    obtain ⟨h1, h2, _⟩ := List.findIdx?_eq_some_iff_getElem.1 h
    have e : l.any p = true := List.any_eq_true.2 ⟨l[i], by simp, h2⟩
    rw [e]; simp

theorem find_ok {F : Nat} {a : List api_Data} (s : ByteArray) (hl : a.length ≤ maxLen) (hF : a.length < F) : ty_Find F a s = some (at1 (hasName s) a) := by
  rw [ty_Find, indexData_ok (p := hasName s) (fun x _ => by rw [ty_Find_1]) hl hF]
  rfl
theorem find07_ok {F : Nat} {a : List api_Data} (s : ByteArray) (hl : a.length ≤ maxLen) (hF : a.length < F) : R07_Find F a s = some (at1 (hasName s) a) := by
  rw [R07_Find]
  refine search_ok (fun n k => R07_Find_L0 F a s n k) hl (fun n => by rw [R07_Find_L0]; simp only [dec_end, cond_false]) (fun n k x hx => ?_) F hF
  rw [R07_Find_L0]
  simp only [dec_lt hx, cond_true, idx_nat, hx, Option.bind_some]

/-- The first constructor of a name: its type's number, its own. -/
def conAt (s : ByteArray) : List api_Data → Nat → Int × Int × Bool
  | [], _ => (0, 0, false)
  | d :: l, i =>
    match d.Cons.findIdx? (conName s) with
    | some k => ((i : Int), (k : Int), true)
    | none => conAt s l (i + 1)
theorem drop_get {α : Type} {xs : List α} {k : Nat} {x : α} (h : xs[k]? = some x) : xs.drop k = x :: xs.drop (k + 1) := by
  obtain ⟨h1, h2⟩ := List.getElem?_eq_some_iff.1 h
  rw [List.drop_eq_getElem_cons h1, h2]

theorem con_ok {F : Nat} {a : List api_Data} (s : ByteArray) (hl : a.length ≤ maxLen) (hF : a.length < F) (hc : ∀ d ∈ a, d.Cons.length ≤ maxLen ∧ d.Cons.length < F) : ty_Con F a s = some (conAt s a 0) := by
  rw [ty_Con]
  have := loop_ok a (fun n (_ : Unit) k => ty_Con_L0 F a s n k) (fun k _ => conAt s a 0 = conAt s (a.drop k) k) (fun o => o = some (conAt s a 0)) ?_ ?_ F () hF (by simp)
  · exact this
  · intro n _ hp
    show ty_Con_L0 F a s (n + 1) _ = _
    rw [ty_Con_L0]
    simp only [dec_end, cond_false]
    rw [hp]; simp [conAt]
  · intro n _ k x hx hp next
    show ty_Con_L0 F a s (n + 1) _ = _
    rw [ty_Con_L0]
    simp only [dec_lt hx, cond_true, idx_nat, hx, Option.bind_some]
    obtain ⟨c1, c2⟩ := hc x (List.mem_of_getElem? hx)
    rw [indexCon_ok (p := conName s) (fun y _ => by rw [ty_Con_1]) c1 c2]
    rw [drop_get hx] at hp
    simp only [conAt] at hp
    simp only [Option.bind_some, at1]
    cases hf : x.Cons.findIdx? (conName s) with
    | some i => rw [hf] at hp; simp [hp]
    | none =>
      rw [hf] at hp
      simp only [show decide ((0 : Int) ≤ -1) = false from rfl, cond_false]
      rw [wrapK hx hl]
      exact next () hp

theorem con07_inner {F : Nat} {a : List api_Data} (s : ByteArray) {i : Nat} {d : api_Data} {K : Unit → Option (Int × Int × Bool)} (hd : a[i]? = some d) (hl : d.Cons.length ≤ maxLen) (hF : d.Cons.length < F) :
    R07_Con_L1 F a s (i : Int) K F 0 = match d.Cons.findIdx? (conName s) with | some k => some ((i : Int), (k : Int), true) | none => K () := by
  refine loop_ok d.Cons (fun n (_ : Unit) k => R07_Con_L1 F a s (i : Int) K n k) (fun k _ => ∀ j, j < k → ∀ x, d.Cons[j]? = some x → conName s x = false) (fun o => o = match d.Cons.findIdx? (conName s) with | some k => some ((i : Int), (k : Int), true) | none => K ()) ?_ ?_ F () hF (fun j hj => by omega)
  · intro n _ hp
    show R07_Con_L1 F a s (i : Int) K (n + 1) _ = _
    rw [R07_Con_L1, List.findIdx?_eq_none_iff.2 fun x hx => ?_]
    · simp only [idx_nat, hd, Option.bind_some, dec_end, cond_false]
    · obtain ⟨j, hj⟩ := List.mem_iff_getElem?.1 hx
      simpa using hp j (lt_of_get hj) x hj
  · intro n _ k x hx hp next
    show R07_Con_L1 F a s (i : Int) K (n + 1) _ = _
    rw [R07_Con_L1]
    simp only [idx_nat, hd, Option.bind_some, dec_lt hx, cond_true, hx]
    cases hpx : (x.Name.toList == s.toList) with
    | true => simp only [cond_true]; rw [findIdx_at hx hpx hp]
    | false =>
      simp only [cond_false]
      rw [wrapK hx hl]
      refine next () fun j hj y hy => ?_
      rcases Nat.lt_or_ge j k with h | h
      · exact hp j h y hy
      · have : j = k := by omega
        subst this; rw [hx] at hy; cases hy; exact hpx

theorem con07_ok {F : Nat} {a : List api_Data} (s : ByteArray) (hl : a.length ≤ maxLen) (hF : a.length < F) (hc : ∀ d ∈ a, d.Cons.length ≤ maxLen ∧ d.Cons.length < F) : R07_Con F a s = some (conAt s a 0) := by
  rw [R07_Con]
  have := loop_ok a (fun n (_ : Unit) k => R07_Con_L0 F a s n k) (fun k _ => conAt s a 0 = conAt s (a.drop k) k) (fun o => o = some (conAt s a 0)) ?_ ?_ F () hF (by simp)
  · exact this
  · intro n _ hp
    show R07_Con_L0 F a s (n + 1) _ = _
    rw [R07_Con_L0]
    simp only [dec_end, cond_false]
    rw [hp]; simp [conAt]
  · intro n _ k x hx hp next
    show R07_Con_L0 F a s (n + 1) _ = _
    rw [R07_Con_L0]
    simp only [dec_lt hx, cond_true, joinM]
    obtain ⟨c1, c2⟩ := hc x (List.mem_of_getElem? hx)
    rw [con07_inner s hx c1 c2]
    rw [drop_get hx] at hp
    simp only [conAt] at hp
    cases hf : x.Cons.findIdx? (conName s) with
    | some i => rw [hf] at hp; simp [hp]
    | none =>
      rw [hf] at hp
      simp only
      rw [wrapK hx hl]
      exact next () hp

/-! Whether a type's names are known. -/
mutual
def knownT (l : List api_Data) : api_Type → Bool
  | ⟨k, n, ps⟩ => !((k == 2) && decide (at1 (hasName n) l < 0)) && knownTs l ps
def knownTs (l : List api_Data) : List api_Type → Bool
  | [] => true
  | x :: xs => knownT l x && knownTs l xs
end
theorem knownTs_all (l : List api_Data) : ∀ xs : List api_Type, knownTs l xs = xs.all (knownT l)
  | [] => rfl
  | x :: xs => by simp [knownTs, knownTs_all l xs]

theorem known_ok (l : List api_Data) (hl : l.length ≤ maxLen) : ∀ (a : api_Type), W40 a → Evt fun F => ty_Known F l a = some (knownT l a) ∧ ty_Known_1 (F + 1) a l = some (!knownT l a)
  | ⟨k, nm, ps⟩, hw => by
    obtain ⟨_, _, hlp, hp⟩ := (W40_iff _).1 hw
    have ih : ∀ p ∈ ps, Evt fun F => ty_Known F l p = some (knownT l p) ∧ ty_Known_1 (F + 1) p l = some (!knownT l p) := fun p hpm => known_ok l hl p (hp p hpm)
    have base : Evt fun F => ty_Known F l ⟨k, nm, ps⟩ = some (knownT l ⟨k, nm, ps⟩) := by
      refine ((((Evt.all ih).succ).and ((Evt.ge (ps.length + 2)).and (Evt.ge (l.length + 2)))).succ).mono ?_
      rintro F ⟨F', rfl, ⟨F2, rfl, h1⟩, h2, h3⟩
      rw [ty_Known, ty_Known_B]
      simp only [knownT, joinM, slices_ContainsFunc_api_Type_api_Type]
      rw [indexType_ok (p := fun y => !knownT l y) (fun x hx => (h1 x hx).2) hlp (by omega)]
      simp only [Option.bind_some, at1_any, knownTs_all]
      have e : (!(ps.any fun y => !knownT l y)) = ps.all (knownT l) := by
        rw [List.not_any_eq_all_not]; simp
      cases hk : (k == 2) with
      | false => simp only [cond_false]; rw [e]; simp
      | true =>
        simp only [cond_true]
        rw [find_ok nm hl (by omega)]
        simp only [Option.bind_some]
        cases hd : decide (at1 (hasName nm) l < 0) with
        | true => simp
        | false => simp only [cond_false]; rw [e]; simp
    obtain ⟨N, hN⟩ := base
    refine ⟨N, fun F hF => ⟨hN F hF, ?_⟩⟩
    rw [ty_Known_1, ty_Known_1_B, hN F hF]
    rfl
termination_by t => t
decreasing_by
  have := List.sizeOf_lt_of_mem hpm
  simp only [api_Type.mk.sizeOf_spec]
  omega

theorem known07_ok (l : List api_Data) (hl : l.length ≤ maxLen) : ∀ (a : api_Type), W40 a → Evt fun F => R07_Known F l a = some (knownT l a)
  | ⟨k, nm, ps⟩, hw => by
    obtain ⟨_, _, hlp, hp⟩ := (W40_iff _).1 hw
    have ih : ∀ p ∈ ps, Evt fun F => R07_Known F l p = some (knownT l p) := fun p hpm => known07_ok l hl p (hp p hpm)
    refine (((Evt.all ih).and ((Evt.ge (ps.length + 1)).and (Evt.ge (l.length + 1)))).succ).mono ?_
    rintro F ⟨F', rfl, h1, h2, h3⟩
    rw [R07_Known, R07_Known_B]
    simp only [knownT, joinM, knownTs_all]
    have hL : R07_Known_L0 F' (R07_Known F') l ⟨k, nm, ps⟩ F' 0 = some (ps.all (knownT l)) := by
      refine loop_ok ps (fun n (_ : Unit) j => R07_Known_L0 F' (R07_Known F') l ⟨k, nm, ps⟩ n j) (fun j _ => ∀ i, i < j → ∀ x, ps[i]? = some x → knownT l x = true) (fun o => o = some (ps.all (knownT l))) ?_ ?_ F' () (by omega) (fun j hj => by omega)
      · intro n _ hq
        show R07_Known_L0 _ _ _ _ (n + 1) _ = _
        rw [R07_Known_L0]
        simp only [dec_end, cond_false]
        congr 1
        refine (List.all_eq_true.2 fun x hx => ?_).symm
        obtain ⟨j, hj⟩ := List.mem_iff_getElem?.1 hx
        exact hq j (lt_of_get hj) x hj
      · intro n _ j x hx hq next
        show R07_Known_L0 _ _ _ _ (n + 1) _ = _
        rw [R07_Known_L0]
        simp only [dec_lt hx, cond_true, idx_nat, hx, Option.bind_some, h1 x (List.mem_of_getElem? hx)]
        cases hkx : knownT l x with
        | false =>
          simp only [Bool.not_false, cond_true]
          congr 1
          refine (List.all_eq_false.2 ⟨x, List.mem_of_getElem? hx, by simp [hkx]⟩).symm
        | true =>
          simp only [Bool.not_true, cond_false]
          rw [wrapK hx hlp]
          refine next () fun i hi y hy => ?_
          rcases Nat.lt_or_ge i j with h | h
          · exact hq i h y hy
          · have : i = j := by omega
            subst this; rw [hx] at hy; cases hy; exact hkx
    cases hk : (k == 2) with
    | false => simp only [cond_false, hL]; simp
    | true =>
      simp only [cond_true]
      rw [find07_ok nm hl (by omega)]
      simp only [Option.bind_some]
      cases hd : decide (at1 (hasName nm) l < 0) with
      | true => simp
      | false => simp only [cond_false, hL]; simp
termination_by t => t
decreasing_by
  have := List.sizeOf_lt_of_mem hpm
  simp only [api_Type.mk.sizeOf_spec]
  omega

/-! All types of a program. -/
theorem appM_some {α : Type} {b : Nat} {xs ys : List α} (h : (xs.length + ys.length) * b ≤ roomMax) (h2 : xs.length + ys.length ≤ roomMax) : appM b xs ys = some (xs ++ ys) := by unfold appM; rw [if_pos ⟨h, h2⟩]
theorem room {n b : Nat} (h : n ≤ 5000) (hb : b ≤ 100) : n * b ≤ roomMax := Nat.le_trans (Nat.mul_le_mul h hb) (by decide)
theorem room1 {n : Nat} (h : n ≤ 5000) : n ≤ roomMax := Nat.le_trans h (by decide)

theorem own_ok : ∀ (a : api_Type), W40 a → szT a ≤ 4000 → Evt fun F => ty_own F a = some a
  | ⟨k, nm, ps⟩, hw, hs => by
    obtain ⟨_, _, hl, hp⟩ := (W40_iff _).1 hw
    have hs' : szTs ps ≤ 4000 := by simp only [szT] at hs; omega
    have ih : ∀ p ∈ ps, Evt fun F => ty_own F p = some p := fun p hpm => own_ok p (hp p hpm) (Nat.le_trans (szTs_mem hpm) hs')
    have hlen : ps.length ≤ 4000 := Nat.le_trans (szTs_len ps) hs'
    refine (((Evt.all ih).and (Evt.ge (ps.length + 1))).succ).mono ?_
    rintro F ⟨F', rfl, h1, h2⟩
    rw [ty_own, ty_own_B]
    simp only [joinM]
    refine loop_ok ps (fun n s j => ty_own_L0 F' (ty_own F') ⟨k, nm, ps⟩ (fun v5 => some { (⟨k, nm, ps⟩ : api_Type) with Parts := v5 }) n s j) (fun j s => s = ps.take j) (fun o => o = some ⟨k, nm, ps⟩) ?_ ?_ F' [] (by omega) (by simp)
    · intro n s hq
      rw [ty_own_L0]
      simp only [dec_end, cond_false]
      rw [hq, List.take_length]
    · intro n s j x hx hq next
      have := lt_of_get hx
      rw [ty_own_L0]
      simp only [dec_lt hx, cond_true, idx_nat, hx, Option.bind_some, h1 x (List.mem_of_getElem? hx)]
      rw [appM_some (room (by rw [hq]; simp; omega) (by decide)) (room1 (by rw [hq]; simp; omega))]
      simp only [Option.bind_some]
      rw [wrapK hx hl]
      exact next _ (by rw [hq, take_next hx])
termination_by t => t
decreasing_by
  have := List.sizeOf_lt_of_mem hpm
  simp only [api_Type.mk.sizeOf_spec]
  omega

def always : List api_Data := [(api_Data.mk (api_Pos.mk 0 0) (⟨#[98, 111, 111, 108]⟩ : ByteArray) ([(api_Con.mk (⟨#[70, 97, 108, 115, 101]⟩ : ByteArray) []), (api_Con.mk (⟨#[84, 114, 117, 101]⟩ : ByteArray) [])] : List api_Con)), (api_Data.mk (api_Pos.mk 0 0) (⟨#[97, 99, 116]⟩ : ByteArray) ([(api_Con.mk (⟨#[68, 111, 110, 101]⟩ : ByteArray) []), (api_Con.mk (⟨#[83, 97, 121]⟩ : ByteArray) ([(api_Type.mk 0 ⟨#[]⟩ []), (api_Type.mk 2 (⟨#[97, 99, 116]⟩ : ByteArray) [])] : List api_Type)), (api_Con.mk (⟨#[84, 101, 108, 108]⟩ : ByteArray) ([(api_Type.mk 1 ⟨#[]⟩ []), (api_Type.mk 2 (⟨#[97, 99, 116]⟩ : ByteArray) [])] : List api_Type)), (api_Con.mk (⟨#[65, 114, 109]⟩ : ByteArray) ([(api_Type.mk 0 ⟨#[]⟩ []), (api_Type.mk 0 ⟨#[]⟩ []), (api_Type.mk 2 (⟨#[97, 99, 116]⟩ : ByteArray) [])] : List api_Type)), (api_Con.mk (⟨#[83, 116, 111, 112]⟩ : ByteArray) ([(api_Type.mk 0 ⟨#[]⟩ []), (api_Type.mk 2 (⟨#[97, 99, 116]⟩ : ByteArray) [])] : List api_Type))] : List api_Con))]

theorem datas07_ok {F : Nat} {p : api_Prog} (h : p.Datas.length ≤ 4000) : R07_Datas F p = some (always ++ p.Datas) := by
  rw [R07_Datas]
  have := appM_some (b := 56) (xs := always) (ys := p.Datas) (room (by simp [always]; omega) (by decide)) (room1 (by simp [always]; omega))
  unfold always at this ⊢
  rw [this]
  rfl

theorem fieldsT {c : api_Con} (h : W35 c) : W40 (api_Type.mk 0 ⟨#[]⟩ c.Fields) :=
  (W40_iff _).2 ⟨(show IntKind.i64.min ≤ 0 ∧ 0 ≤ IntKind.i64.max by decide), (show (ByteArray.mk #[]).size ≤ maxLen by decide), h.2⟩

theorem datas_ok (p : api_Prog) (hw : W22 p.Datas) (hs : szD p.Datas ≤ 2000) : Evt fun F => ty_Datas F p = some (always ++ p.Datas) := by
  obtain ⟨hl, hd⟩ := hw
  have hC : ∀ d ∈ p.Datas, Evt fun F => d.Cons.length < F ∧ ∀ c ∈ d.Cons, ty_own F (api_Type.mk 0 ⟨#[]⟩ c.Fields) = some (api_Type.mk 0 ⟨#[]⟩ c.Fields) := fun d hdm => by
    refine ((Evt.ge (d.Cons.length + 1)).and (Evt.all fun c hc => own_ok _ (fieldsT ((hd d hdm).2.2.2 c hc)) ?_))
    have h1 := szD_mem hdm
    have h2 := szC_mem hc
    have h3 : szT (conT c) = szT (api_Type.mk 0 ⟨#[]⟩ c.Fields) := by simp [szT]
    omega
  have hlen : p.Datas.length ≤ 2000 := Nat.le_trans (szD_len _) hs
  refine ((Evt.all hC).and (Evt.ge (p.Datas.length + 1))).mono ?_
  rintro F ⟨h1, h2⟩
  rw [ty_Datas]
  have ha : ty_always F = some always := rfl
  rw [ha]
  simp only [Option.bind_some]
  refine loop_ok p.Datas (fun n s j => ty_Datas_L0 F p n s j) (fun j s => s = always ++ p.Datas.take j) (fun o => o = some (always ++ p.Datas)) ?_ ?_ F always (by omega) (by simp)
  · intro n s hq
    rw [ty_Datas_L0]
    simp only [dec_end, cond_false]
    rw [hq, List.take_length]
  · intro n s j x hx hq next
    have := lt_of_get hx
    rw [ty_Datas_L0]
    simp only [dec_lt hx, cond_true, idx_nat, hx, Option.bind_some, joinM]
    obtain ⟨g1, g2⟩ := h1 x (List.mem_of_getElem? hx)
    have hcl : x.Cons.length ≤ 2000 := by have := szD_mem (List.mem_of_getElem? hx); have := szC_len x.Cons; omega
    have hwx := (hd x (List.mem_of_getElem? hx)).2.2
    refine loop_ok x.Cons (fun n2 s2 i => ty_Datas_L1 F x (fun v15 => (appM 56 s ([{ x with Cons := v15 }] : List api_Data)).bind fun x30 => ty_Datas_L0 F p n x30 (IntKind.i64.wrap ((j : Int) + 1))) n2 s2 i) (fun i s2 => s2 = x.Cons.take i) (fun o => o = some (always ++ p.Datas)) ?_ ?_ F [] g1 (by simp)
    · intro n2 s2 hq2
      rw [ty_Datas_L1]
      simp only [dec_end, cond_false]
      have e : ({ x with Cons := s2 } : api_Data) = x := by rw [hq2, List.take_length]
      rw [e, appM_some (room (by rw [hq]; simp [always]; omega) (by decide)) (room1 (by rw [hq]; simp [always]; omega))]
      simp only [Option.bind_some]
      rw [wrapK hx hl]
      exact next _ (by rw [hq, take_next hx, List.append_assoc])
    · intro n2 s2 i c hc hq2 next2
      have := lt_of_get hc
      rw [ty_Datas_L1]
      simp only [dec_lt hc, cond_true, idx_nat, hc, Option.bind_some, g2 c (List.mem_of_getElem? hc)]
      rw [appM_some (room (by rw [hq2]; simp; omega) (by decide)) (room1 (by rw [hq2]; simp; omega))]
      simp only [Option.bind_some]
      rw [wrapK hc hwx.1]
      exact next2 _ (by rw [hq2, take_next hc])

theorem sameDatas_ok {F : Nat} {l : List api_Data} (hl : l.length ≤ maxLen) (hF : l.length < F) (hc : ∀ d ∈ l, d.Cons.length ≤ maxLen ∧ d.Cons.length < F ∧ ∀ c ∈ d.Cons, R04_SameType F (api_Type.mk 0 ⟨#[]⟩ c.Fields) (api_Type.mk 0 ⟨#[]⟩ c.Fields) = some true) : R07_SameDatas F l l = some true := by
  rw [R07_SameDatas]
  simp only [bne_self_eq_false, cond_false]
  refine loop_ok l (fun n (_ : Unit) j => R07_SameDatas_L0 F l l n j) (fun _ _ => True) (fun o => o = some true) ?_ ?_ F () hF trivial
  · intro n _ _
    show R07_SameDatas_L0 F l l (n + 1) _ = _
    rw [R07_SameDatas_L0]
    simp only [dec_end, cond_false]
  · intro n _ j x hx _ next
    show R07_SameDatas_L0 F l l (n + 1) _ = _
    rw [R07_SameDatas_L0]
    simp only [dec_lt hx, cond_true, idx_nat, hx, Option.bind_some, joinM, beq_self_eq_true, Bool.not_true, bne_self_eq_false, cond_false]
    obtain ⟨c1, c2, c3⟩ := hc x (List.mem_of_getElem? hx)
    refine loop_ok x.Cons (fun n2 (_ : Unit) i => R07_SameDatas_L1 F l l (j : Int) (fun _ => R07_SameDatas_L0 F l l n (IntKind.i64.wrap ((j : Int) + 1))) n2 i) (fun _ _ => True) (fun o => o = some true) ?_ ?_ F () c2 trivial
    · intro n2 _ _
      show R07_SameDatas_L1 F l l (j : Int) _ (n2 + 1) _ = _
      rw [R07_SameDatas_L1]
      simp only [idx_nat, hx, Option.bind_some, dec_end, cond_false]
      rw [wrapK hx hl]
      exact next () trivial
    · intro n2 _ i c hci _ next2
      show R07_SameDatas_L1 F l l (j : Int) _ (n2 + 1) _ = _
      rw [R07_SameDatas_L1]
      simp only [idx_nat, hx, Option.bind_some, dec_lt hci, cond_true, hci, joinM, beq_self_eq_true, Bool.not_true, cond_false, R07_Same, c3 c (List.mem_of_getElem? hci)]
      rw [wrapK hci c1]
      exact next2 () trivial

theorem consT {F : Nat} {a : List api_Data} {i : Nat} {d : api_Data} {K : Int → Option Bool} (hd : a[i]? = some d) (hl : d.Cons.length ≤ maxLen) (hF : d.Cons.length < F) (h : ∀ c ∈ d.Cons, LT F (conT c)) (w : Int) (hw : -4294967296 ≤ w) (hw2 : w ≤ 1048576) {R : Option Bool → Prop}
    (hK : ∀ s, s ≤ w → min w 0 - 1048577 ≤ s → R (K s)) : R (L07_light_L1 F a (i : Int) K F w 0) := by
  refine loop_ok d.Cons (fun n s k => L07_light_L1 F a (i : Int) K n s k) (fun k s => s ≤ w ∧ min w 0 - 1048577 ≤ s ∧ (w < 0 → s = w)) R ?_ ?_ F w hF ⟨Int.le_refl _, by omega, fun _ => rfl⟩
  · intro n s ⟨p1, p2, p3⟩
    rw [L07_light_L1]
    simp only [idx_nat, hd, Option.bind_some, dec_end, Bool.false_and, cond_false]
    exact hK s p1 p2
  · intro n s k x hx ⟨p1, p2, p3⟩ next
    rw [L07_light_L1]
    simp only [idx_nat, hd, Option.bind_some, dec_lt hx, Bool.true_and]
    cases hs : decide (0 ≤ s) with
    | false => exact hK s p1 p2
    | true =>
      simp only [decide_eq_true_eq] at hs
      simp only [cond_true, hx, Option.bind_some]
      obtain ⟨r, hr, q1, q2, q3⟩ := h x (List.mem_of_getElem? hx) s ⟨by omega, by omega⟩
      rw [hr]
      simp only [Option.bind_some]
      rw [wrapK hx hl]
      exact next r ⟨by omega, by omega, by omega⟩

theorem lightD_ok (a : List api_Data) (hw : W22 a) : Evt fun F => ∃ b, L07_light F a = some b := by
  obtain ⟨hl, hd⟩ := hw
  have hC : ∀ d ∈ a, Evt fun F => d.Cons.length < F ∧ ∀ c ∈ d.Cons, LT F (conT c) := fun d hdm => (Evt.ge (d.Cons.length + 1)).and (Evt.all fun c hc => lightType_ok (conT c) (conT_W ((hd d hdm).2.2.2 c hc)))
  refine ((Evt.all hC).and (Evt.ge (a.length + 1))).mono ?_
  rintro F ⟨h1, h2⟩
  rw [L07_light]
  simp only [joinM]
  refine loop_ok a (fun n s k => L07_light_L0 F a (fun v1 => some (decide (0 ≤ v1) && decide ((a.length : Int) ≤ 60))) n s k) (fun k s => s ≤ 2000 ∧ -4194304 ≤ s) (fun o => ∃ b, o = some b) ?_ ?_ F 2000 (by omega) ⟨by omega, by omega⟩
  · intro n s _
    rw [L07_light_L0]
    simp only [dec_end, Bool.false_and, cond_false]
    exact ⟨_, rfl⟩
  · intro n s k x hx ⟨p1, p2⟩ next
    rw [L07_light_L0]
    simp only [dec_lt hx, Bool.true_and]
    cases hs : decide (0 ≤ s) with
    | false => exact ⟨_, rfl⟩
    | true =>
      simp only [decide_eq_true_eq] at hs
      simp only [cond_true, idx_nat, hx, Option.bind_some, joinM]
      obtain ⟨g1, g2⟩ := h1 x (List.mem_of_getElem? hx)
      have hn : 0 ≤ (if 2000 < (x.Name.size : Int) then 2000 else (x.Name.size : Int)) ∧ (if 2000 < (x.Name.size : Int) then 2000 else (x.Name.size : Int)) ≤ 2000 := by split <;> omega
      rw [wrap_ok (x := 1 + (if 2000 < (x.Name.size : Int) then 2000 else (x.Name.size : Int))) (by omega) (by omega), wrap_ok (x := s - (1 + (if 2000 < (x.Name.size : Int) then 2000 else (x.Name.size : Int)))) (by omega) (by omega)]
      refine consT hx (hd x (List.mem_of_getElem? hx)).2.2.1 g1 g2 (s - (1 + (if 2000 < (x.Name.size : Int) then 2000 else (x.Name.size : Int)))) (by omega) (by omega) (R := fun o => ∃ b, o = some b) fun s' q1 q2 => ?_
      rw [wrapK hx hl]
      exact next s' ⟨by omega, by omega⟩

theorem holds_TyTells (p : api_Prog) (l : List api_Data) (a b : api_Type) (s : ByteArray) (w0 : W51 p) (w1 : W22 l) (w2 : W40 a) (w3 : W40 b) (w4 : W9 s) : ∃ F, L07_TyTells F p l a b s = some true := by
  have hL := lightProg_ok p w0
  have e2 : ∀ d ∈ l, Evt fun F => d.Cons.length ≤ maxLen ∧ d.Cons.length < F := fun d hd => ⟨d.Cons.length + 1, fun F hF => ⟨(w1.2 d hd).2.2.1, by omega⟩⟩
  by_cases hs : szD p.Datas ≤ 2000
  · have hlen : p.Datas.length ≤ 2000 := Nat.le_trans (szD_len _) hs
    have hW : W22 (always ++ p.Datas) := by
      refine ⟨by simp [always]; exact Nat.le_trans (by omega) (show 2002 ≤ maxLen by decide), fun d hd => ?_⟩
      rcases List.mem_append.1 hd with hd | hd
      · have hall : ∀ d ∈ always, W32 d := by
          have z : W3 0 := (show IntKind.i64.min ≤ 0 ∧ 0 ≤ IntKind.i64.max by decide)
          have z1 : W3 1 := (show IntKind.i64.min ≤ 1 ∧ 1 ≤ IntKind.i64.max by decide)
          have z2 : W3 2 := (show IntKind.i64.min ≤ 2 ∧ 2 ≤ IntKind.i64.max by decide)
          have nm : ∀ x : ByteArray, x.size ≤ 10 → W9 x := fun x h => Nat.le_trans h (by decide)
          have fs : ∀ l : List api_Type, l.length ≤ 10 → (∀ y ∈ l, W40 y) → W33 l := fun l h g => ⟨Nat.le_trans h (by decide), g⟩
          have tn : W40 (api_Type.mk 0 ⟨#[]⟩ []) := (W40_iff _).2 ⟨z, nm _ (by decide), fs _ (by decide) (by simp)⟩
          have tb : W40 (api_Type.mk 1 ⟨#[]⟩ []) := (W40_iff _).2 ⟨z1, nm _ (by decide), fs _ (by decide) (by simp)⟩
          have ta : W40 (api_Type.mk 2 (⟨#[97, 99, 116]⟩ : ByteArray) []) := (W40_iff _).2 ⟨z2, nm _ (by decide), fs _ (by decide) (by simp)⟩
          have cn : ∀ (n : ByteArray) (l : List api_Type), n.size ≤ 10 → l.length ≤ 10 → (∀ y ∈ l, W40 y) → W35 (api_Con.mk n l) := fun n l h1 h2 h3 => ⟨nm _ h1, fs _ h2 h3⟩
          intro d hd
          simp only [always, List.mem_cons, List.not_mem_nil, or_false] at hd
          rcases hd with rfl | rfl
          · refine ⟨⟨z, z⟩, nm _ (by decide), by decide, ?_⟩
            intro c hc
            simp only [List.mem_cons, List.not_mem_nil, or_false] at hc
            rcases hc with rfl | rfl <;> exact cn _ _ (by decide) (by decide) (by simp)
          · refine ⟨⟨z, z⟩, nm _ (by decide), by decide, ?_⟩
            intro c hc
            simp only [List.mem_cons, List.not_mem_nil, or_false] at hc
            rcases hc with rfl | rfl | rfl | rfl | rfl <;> exact cn _ _ (by decide) (by decide) (by simp [tn, tb, ta])
        exact hall d hd
      · exact w0.1.2 d hd
    have hSD : ∀ d ∈ always ++ p.Datas, Evt fun F => d.Cons.length ≤ maxLen ∧ d.Cons.length < F ∧ ∀ c ∈ d.Cons, R04_SameType F (api_Type.mk 0 ⟨#[]⟩ c.Fields) (api_Type.mk 0 ⟨#[]⟩ c.Fields) = some true := fun d hd => by
      obtain ⟨_, _, g1, g2⟩ := hW.2 d hd
      refine ((Evt.ge (d.Cons.length + 1)).and (Evt.all fun c hc => (same04_ok _ (fieldsT (g2 c hc))))).mono ?_
      rintro F ⟨h1, h2⟩
      exact ⟨g1, h1, fun c hc => by rw [h2 c hc, sameT_refl]⟩
    refine Evt.ex (((hL.and (lightD_ok l w1)).and ((lightType_ok a w2).and (lightType_ok b w3))).and (((Evt.all e2).and (datas_ok p w0.1 hs)).and (((Evt.all hSD).and ((same04_ok a w2).and (same_ok a w2))).and (((known_ok l w1.1 a w2).and (known07_ok l w1.1 a w2)).and ((Evt.ge (l.length + 1)).and (Evt.ge ((always ++ p.Datas).length + 1)))))) |>.mono ?_)
    rintro F ⟨⟨⟨⟨r, hr, hr2⟩, lb, hlb⟩, hLa, hLb⟩, ⟨hc, hD⟩, ⟨hsd, hs4, hsm⟩, ⟨⟨hk, _⟩, hk7⟩, hF1, hF2⟩
    rw [L07_TyTells, hr]
    simp only [Option.bind_some, joinM]
    obtain ⟨ra, hra, _⟩ := hLa 2000 ⟨by omega, by omega⟩
    obtain ⟨rb, hrb, _⟩ := hLb 2000 ⟨by omega, by omega⟩
    rw [hra, hrb, hlb, con_ok s w1.1 (by omega) hc, con07_ok s w1.1 (by omega) hc, hD, datas07_ok (by omega), find_ok s w1.1 (by omega), find07_ok s w1.1 (by omega), hk, hk7, hsm b, hsm a]
    simp only [Option.bind_some]
    rw [sameDatas_ok hW.1 (by omega) hsd, same07_ok (hs4 b)]
    simp only [Option.bind_some, beq_self_eq_true, Bool.and_true, cond_true, sameT_refl, L07_awake]
    cases decide (r < 0) <;> cases lb <;> cases decide (ra < 0) <;> cases decide (rb < 0) <;> cases decide (300 < (s.size : Int)) <;> rfl
  · refine Evt.ex ((hL.and ((lightD_ok l w1).and ((lightType_ok a w2).and (lightType_ok b w3)))) |>.mono ?_)
    rintro F ⟨⟨r, hr, hr2⟩, _⟩
    rw [L07_TyTells, hr]
    have : decide (r < 0) = true := by
      simp only [decide_eq_true_eq]
      rcases Int.lt_or_le r 0 with h | h
      · exact h
      · exact absurd (hr2 h) hs
    simp only [Option.bind_some, joinM, this, cond_true, Bool.true_or, L07_awake]

end Go.Proofs.Ytappiofmkoelnaa.M
