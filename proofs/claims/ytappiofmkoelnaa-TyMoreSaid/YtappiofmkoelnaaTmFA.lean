/-
  Which types have values: plainly.
-/
import Derived.Test.YtappiofmkoelnaaTmT
namespace Go.Proofs.Ytappiofmkoelnaa.M
open Go.Proofs.YtappiofmkoelnaaW.Ah Go.Proofs.Ytappiofmkoelnaa
set_option linter.unusedVariables false
set_option linter.unusedSimpArgs false

/-- The first type of a name. -/
def atN (l : List api_Data) (n : ByteArray) : Option Nat := l.findIdx? fun d => d.Name.toList == n.toList
def hasN (l : List api_Data) (S : Nat → Bool) (n : ByteArray) : Bool := match atN l n with | some i => S i | none => false
mutual
def fillsT (l : List api_Data) (S : Nat → Bool) : api_Type → Bool
  | ⟨k, n, ps⟩ => if k = 0 then true else if k = 1 then true else if k = 2 then hasN l S n else fillsAll l S ps
def fillsAll (l : List api_Data) (S : Nat → Bool) : List api_Type → Bool
  | [] => true
  | t :: ts => fillsT l S t && fillsAll l S ts
end
theorem fillsT_eq (l : List api_Data) (S : Nat → Bool) (t : api_Type) : fillsT l S t = if t.Kind = 0 then true else if t.Kind = 1 then true else if t.Kind = 2 then hasN l S t.Name else fillsAll l S t.Parts := by
  cases t; rw [fillsT]
theorem fillsAll_eq (l : List api_Data) (S : Nat → Bool) : ∀ ts : List api_Type, fillsAll l S ts = ts.all (fillsT l S)
  | [] => by rw [fillsAll]; rfl
  | t :: ts => by rw [fillsAll, fillsAll_eq l S ts]; rfl
/-- May a type have values, by one of its constructors? -/
def byCon (l : List api_Data) (S : Nat → Bool) (d : api_Data) : Bool := d.Cons.any fun c => fillsAll l S c.Fields
def ofL (hv : List Bool) : Nat → Bool := fun i => hv.getD i false
/-- The next that is found. -/
def goes (l : List api_Data) (hv : List Bool) (i : Nat) : Bool := match l[i]? with | some d => !hv.getD i false && byCon l (ofL hv) d | none => false
def stepO (l : List api_Data) (hv : List Bool) : Option Nat := (List.range l.length).find? (goes l hv)
def fullN (l : List api_Data) : Nat → List Bool → List Bool
  | 0, hv => hv
  | m + 1, hv => match stepO l hv with
    | none => hv
    | some i => fullN l m (hv.set i true)
def fullP (l : List api_Data) : List Bool := fullN l (l.length + 1) (List.replicate l.length false)
def cntF (hv : List Bool) : Nat := (hv.filter fun b => !b).length

theorem cntF_le (hv : List Bool) : cntF hv ≤ hv.length := List.length_filter_le _ _
theorem cntF_set : ∀ (hv : List Bool) (i : Nat), i < hv.length → hv.getD i false = false → cntF (hv.set i true) + 1 = cntF hv
  | b :: hv, 0, _, h => by
    have : b = false := by simpa using h
    subst this
    simp [cntF]
  | b :: hv, i + 1, h, hf => by
    have := cntF_set hv i (by simpa using h) (by simpa using hf)
    cases b <;> simp [cntF] at this ⊢ <;> omega
theorem stepO_some {l : List api_Data} {hv : List Bool} {i : Nat} (h : stepO l hv = some i) : i < l.length ∧ goes l hv i = true ∧ ∀ j, j < i → goes l hv j = false := by
  unfold stepO at h
  have h1 := List.find?_some h
  have h2 : i ∈ List.range l.length := List.mem_of_find?_eq_some h
  refine ⟨by simpa using h2, h1, fun j hj => ?_⟩
  rw [List.find?_range_eq_some] at h
  have := h.2.2 j hj
  simpa using this
theorem stepO_of {l : List api_Data} {hv : List Bool} {i : Nat} (hi : i < l.length) (h1 : goes l hv i = true) (h2 : ∀ j, j < i → goes l hv j = false) : stepO l hv = some i := by
  unfold stepO
  rw [List.find?_range_eq_some]
  exact ⟨h1, by simpa using hi, fun j hj => by simp [h2 j hj]⟩
theorem stepO_none {l : List api_Data} {hv : List Bool} : stepO l hv = none ↔ ∀ i, i < l.length → goes l hv i = false := by
  unfold stepO
  rw [List.find?_eq_none]
  simp
theorem goes_not {l : List api_Data} {hv : List Bool} {i : Nat} (h : goes l hv i = true) : hv.getD i false = false := by
  unfold goes at h
  split at h
  · simp only [Bool.and_eq_true, Bool.not_eq_true'] at h; exact h.1
  · cases h
theorem fullN_len (l : List api_Data) : ∀ (m : Nat) (hv : List Bool), (fullN l m hv).length = hv.length
  | 0, hv => rfl
  | m + 1, hv => by
    rw [fullN]
    split
    · rfl
    · rw [fullN_len l m]; simp
theorem fullP_len (l : List api_Data) : (fullP l).length = l.length := by unfold fullP; rw [fullN_len]; simp
theorem fullN_stops (l : List api_Data) : ∀ (m : Nat) (hv : List Bool), hv.length = l.length → cntF hv < m → stepO l (fullN l m hv) = none
  | 0, hv, _, h => absurd h (by omega)
  | m + 1, hv, hl, h => by
    rw [fullN]
    cases hs : stepO l hv with
    | none => exact hs
    | some i =>
      obtain ⟨h1, h2, _⟩ := stepO_some hs
      have := cntF_set hv i (by omega) (goes_not h2)
      exact fullN_stops l m _ (by simp [hl]) (by omega)
/-- What has values has so by a constructor. -/
theorem fullP_closed (l : List api_Data) {i : Nat} {d : api_Data} (h : l[i]? = some d) (hb : byCon l (ofL (fullP l)) d = true) : (fullP l).getD i false = true := by
  have hs : stepO l (fullP l) = none := fullN_stops l _ _ (by simp) (by have := cntF_le (List.replicate l.length false); simp at this; omega)
  have := stepO_none.1 hs i (List.getElem?_eq_some_iff.1 h).1
  unfold goes at this
  rw [h] at this
  simp only [hb, Bool.and_true, Bool.not_eq_false'] at this
  exact this
theorem hasN_mono {l : List api_Data} {S S' : Nat → Bool} (h : ∀ i, S i = true → S' i = true) {n : ByteArray} (hn : hasN l S n = true) : hasN l S' n = true := by
  unfold hasN at hn ⊢
  split at hn
  · exact h _ hn
  · cases hn
mutual
theorem fillsT_mono {l : List api_Data} {S S' : Nat → Bool} (h : ∀ i, S i = true → S' i = true) : ∀ t : api_Type, fillsT l S t = true → fillsT l S' t = true
  | ⟨k, n, ps⟩, ht => by
    rw [fillsT] at ht ⊢
    split
    · rfl
    · rename_i h0
      rw [if_neg h0] at ht
      split
      · rfl
      · rename_i h1
        rw [if_neg h1] at ht
        split
        · rename_i h2; rw [if_pos h2] at ht; exact hasN_mono h ht
        · rename_i h2; rw [if_neg h2] at ht; exact fillsAll_mono h ps ht
theorem fillsAll_mono {l : List api_Data} {S S' : Nat → Bool} (h : ∀ i, S i = true → S' i = true) : ∀ ts : List api_Type, fillsAll l S ts = true → fillsAll l S' ts = true
  | [], _ => by rw [fillsAll]
  | t :: ts, ht => by
    rw [fillsAll, Bool.and_eq_true] at ht ⊢
    exact ⟨fillsT_mono h t ht.1, fillsAll_mono h ts ht.2⟩
end
theorem byCon_mono {l : List api_Data} {S S' : Nat → Bool} (h : ∀ i, S i = true → S' i = true) {d : api_Data} (hb : byCon l S d = true) : byCon l S' d = true := by
  unfold byCon at hb ⊢
  rw [List.any_eq_true] at hb ⊢
  obtain ⟨c, h1, h2⟩ := hb
  exact ⟨c, h1, fillsAll_mono h _ h2⟩
theorem fullN_least (l : List api_Data) (S : Nat → Bool) (hS : ∀ i d, l[i]? = some d → byCon l S d = true → S i = true) : ∀ (m : Nat) (hv : List Bool), (∀ i, hv.getD i false = true → S i = true) → ∀ i, (fullN l m hv).getD i false = true → S i = true
  | 0, hv, h => h
  | m + 1, hv, h => by
    rw [fullN]
    split
    · exact h
    · rename_i i hs
      obtain ⟨h1, h2, _⟩ := stepO_some hs
      refine fullN_least l S hS m _ fun j hj => ?_
      by_cases e : j = i
      · subst e
        unfold goes at h2
        split at h2
        · rename_i d hd
          rw [Bool.and_eq_true] at h2
          exact hS j d hd (byCon_mono h h2.2)
        · cases h2
      · refine h j ?_
        simpa [List.getD, List.getElem?_set_ne (Ne.symm e)] using hj
/-- The least. -/
theorem fullP_least (l : List api_Data) (S : Nat → Bool) (hS : ∀ i d, l[i]? = some d → byCon l S d = true → S i = true) (i : Nat) (h : (fullP l).getD i false = true) : S i = true := by
  refine fullN_least l S hS _ _ (fun j hj => ?_) i h
  simp [List.getD, List.getElem?_replicate] at hj
  split at hj <;> simp at hj
end Go.Proofs.Ytappiofmkoelnaa.M
