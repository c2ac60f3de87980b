/-
  What is found by its name has it, and none ahead of it does.
-/
import Derived.Test.YtappiofmkoelnaaTyPA
namespace Go.Proofs.Ytappiofmkoelnaa.M
open Go.Proofs.YtappiofmkoelnaaW.Ah Go.Proofs.Ytappiofmkoelnaa
set_option linter.unusedVariables false
set_option linter.unusedSimpArgs false

theorem names_cons {F : Nat} {s : ByteArray} {x5 : Int × Int × Bool} {k : Nat} {d : api_Data} {K : Unit → Option Bool} (hl : d.Cons.length ≤ maxLen)
    (h : ∀ (q : Nat) x, d.Cons[q]? = some x → conName s x = true → (((!x5.2.2) || (decide ((k : Int) < x5.1))) || (((k : Int) == x5.1) && (decide ((q : Int) < x5.2.1)))) = false) : ∀ (post pre : List api_Con) (n : Nat), d.Cons = pre ++ post → post.length < n →
    L07_TyNames_L1 F s x5 (k : Int) d K n (pre.length : Int) = K ()
  | [], pre, 0, e, hn => by simp at hn
  | [], pre, n + 1, e, hn => by
    rw [L07_TyNames_L1]
    have : decide ((pre.length : Int) < (d.Cons.length : Int)) = false := by rw [e]; simp
    rw [this]; rfl
  | t :: post, pre, 0, e, hn => by simp at hn
  | t :: post, pre, n + 1, e, hn => by
    rw [L07_TyNames_L1]
    have : decide ((pre.length : Int) < (d.Cons.length : Int)) = true := by rw [e]; simp; omega
    have hq0 : idx d.Cons (pre.length : Int) = some t := by rw [e, idx_mid]
    rw [this, hq0]
    simp only [cond_true, Option.bind_some]
    have hq : d.Cons[pre.length]? = some t := by rw [e]; simp
    have hf : ((t.Name.toList == s.toList) && (((!x5.2.2) || (decide ((k : Int) < x5.1))) || (((k : Int) == x5.1) && (decide ((pre.length : Int) < x5.2.1))))) = false := by
      cases hb : (t.Name.toList == s.toList) with
      | false => rfl
      | true => rw [Bool.true_and]; exact h _ t hq hb
    rw [hf]
    have ih := names_cons (F := F) (K := K) hl h post (pre ++ [t]) n (by simp [e]) (by simp at hn; omega)
    rw [wrapS _ (by have := big hl; rw [e] at this; simp at this; omega)]
    simp only [cond_false]
    rw [show ((pre.length + 1 : Nat) : Int) = ((pre ++ [t]).length : Int) by simp, ih]

theorem names_loop {F : Nat} {a : List api_Data} {s : ByteArray} {x4 : Int} {x5 : Int × Int × Bool} (hl : a.length ≤ maxLen) (hc : ∀ d ∈ a, d.Cons.length ≤ maxLen ∧ d.Cons.length < F)
    (h1 : ∀ (k : Nat) d, a[k]? = some d → (x4 < 0 ∨ (k : Int) < x4) → hasName s d = false)
    (h2 : ∀ (k : Nat) d, a[k]? = some d → ∀ (q : Nat) x, d.Cons[q]? = some x → conName s x = true → (((!x5.2.2) || (decide ((k : Int) < x5.1))) || (((k : Int) == x5.1) && (decide ((q : Int) < x5.2.1)))) = false) : ∀ (post pre : List api_Data) (n : Nat), a = pre ++ post → post.length < n →
    L07_TyNames_L0 F a s x4 x5 n (pre.length : Int) = some true
  | [], pre, 0, e, hn => by simp at hn
  | [], pre, n + 1, e, hn => by
    rw [L07_TyNames_L0]
    have : decide ((pre.length : Int) < (a.length : Int)) = false := by rw [e]; simp
    rw [this]; rfl
  | t :: post, pre, 0, e, hn => by simp at hn
  | t :: post, pre, n + 1, e, hn => by
    rw [L07_TyNames_L0]
    have : decide ((pre.length : Int) < (a.length : Int)) = true := by rw [e]; simp; omega
    have hm : t ∈ a := by rw [e]; simp
    have hq : a[pre.length]? = some t := by rw [e]; simp
    have ih := names_loop hl hc h1 h2 post (pre ++ [t]) n (by simp [e]) (by simp at hn; omega)
    rw [this]
    simp only [cond_true, joinM, idx_nat, hq, Option.bind_some]
    have hfin : (bif (decide (x4 < 0) || decide ((pre.length : Int) < x4)) then (bif (t.Name.toList == s.toList) then (some false) else some true) else some true) = some true := by
      cases hb : (decide (x4 < 0) || decide ((pre.length : Int) < x4)) with
      | false => rfl
      | true =>
        have := h1 _ t hq (by simpa using hb)
        rw [show (t.Name.toList == s.toList) = false from this]
        rfl
    rw [wrapS _ (by have := big hl; rw [e] at this; simp at this; omega)]
    rw [show ((pre.length + 1 : Nat) : Int) = ((pre ++ [t]).length : Int) by simp, ih]
    have hin' : L07_TyNames_L1 F s x5 (pre.length : Int) t (fun _ => some true) F 0 = some true := by
      have := names_cons (F := F) (K := fun _ => some true) (hc t hm).1 (h2 _ t hq) t.Cons [] F rfl (hc t hm).2
      simpa using this
    rw [hin']
    simpa using hfin

theorem holds_TyNames (a : List api_Data) (s : ByteArray) (w0 : W22 a) (w1 : W9 s) : ∃ F, L07_TyNames F a s = some true := by
  have h2 : ∀ d ∈ a, Evt fun F => d.Cons.length ≤ maxLen ∧ d.Cons.length < F := fun d hd => ⟨d.Cons.length + 1, fun F hF => ⟨(w0.2 d hd).2.2.1, by omega⟩⟩
  refine Evt.ex (((light_ev w0).and (Evt.all h2)).and (Evt.ge (a.length + 1)) |>.mono ?_)
  rintro F ⟨⟨⟨b, hb, _⟩, hc⟩, hF⟩
  rw [L07_TyNames, hb]
  simp only [Option.bind_some]
  cases hg : (!b || decide (300 < (s.size : Int))) with
  | true => rfl
  | false =>
    simp only [cond_false]
    obtain ⟨x5, hcon, hA, hB⟩ : ∃ x5 : Int × Int × Bool, ty_Con F a s = some x5 ∧ (x5.2.2 = true → ∃ (i k : Nat) (d : api_Data) (c : api_Con), x5.1 = i ∧ x5.2.1 = k ∧ a[i]? = some d ∧ d.Cons[k]? = some c ∧ conName s c = true) ∧
        (∀ (k : Nat) d, a[k]? = some d → ∀ (q : Nat) x, d.Cons[q]? = some x → conName s x = true → (((!x5.2.2) || (decide ((k : Int) < x5.1))) || (((k : Int) == x5.1) && (decide ((q : Int) < x5.2.1)))) = false) := by
      refine ⟨_, con_ok s w0.1 (by omega) hc, ?_⟩
      cases hca : conAt s a 0 with
      | none =>
        refine ⟨fun h => (by cases h), fun k d hk q x hq hx => ?_⟩
        have := conAt_none hca d (List.mem_of_getElem? hk) x (List.mem_of_getElem? hq)
        rw [hx] at this; cases this
      | some ik =>
        obtain ⟨i, kk⟩ := ik
        obtain ⟨d', c, g1, g2, g3, g4, g5, g6⟩ := conAt_some hca
        simp only [Nat.sub_zero] at g2 g6
        refine ⟨fun _ => ⟨i, kk, d', c, rfl, rfl, g2, g3, g4⟩, fun k d hk q x hq hx => ?_⟩
        simp only [Bool.not_true, Bool.false_or, Bool.or_eq_false_iff, decide_eq_false_iff_not, Bool.and_eq_false_imp, beq_iff_eq]
        refine ⟨fun hlt => ?_, fun e hlt => ?_⟩
        · have := g6 k (by omega) d hk x (List.mem_of_getElem? hq)
          rw [hx] at this; cases this
        · have : k = i := by omega
          subst this
          rw [hk] at g2; cases g2
          have := g5 q (by omega) x hq
          rw [hx] at this; cases this
    rw [find_ok s w0.1 (by omega), hcon]
    simp only [Option.bind_some, joinM]
    have hlast : L07_TyNames_L0 F a s (at1 (hasName s) a) x5 F 0 = some true := by
      refine names_loop w0.1 hc (fun k d hk h => ?_) hB a [] F rfl (by omega)
      rcases Int.lt_or_le (at1 (hasName s) a) 0 with h0 | h0
      · exact (at1_none h0).2 d (List.mem_of_getElem? hk)
      · obtain ⟨i, x, e, h1, h2, h3⟩ := at1_some h0
        exact h3 k (by omega) d hk
    rw [hlast]
    simp only [cond_false]
    have key : ∀ K : Bool → Option Bool, K false = some true → K true = some false → (bif x5.2.2 then
        (bif (((decide (x5.1 < 0)) || (decide ((a.length : Int) ≤ x5.1))) || (decide (x5.2.1 < 0))) then K true
        else ((idx a x5.1).bind fun x12 => bif decide ((x12.Cons.length : Int) ≤ x5.2.1) then K true else
          ((idx a x5.1).bind fun x14 => (idx x14.Cons x5.2.1).bind fun x15 => K (!(x15.Name.toList == s.toList))))) else K false) = some true := by
      intro K k1 k2
      cases h5 : x5.2.2 with
      | false => exact k1
      | true =>
        obtain ⟨i, k, d, c, e1, e2, h1, h2, h3⟩ := hA h5
        have l1 := (List.getElem?_eq_some_iff.1 h1).1
        have l2 := (List.getElem?_eq_some_iff.1 h2).1
        rw [e1, e2, idx_nat, h1]
        simp only [Option.bind_some, idx_nat, h2]
        have f1 : (((decide ((i : Int) < 0)) || (decide ((a.length : Int) ≤ (i : Int)))) || (decide ((k : Int) < 0))) = false := by simp; omega
        have f2 : decide ((d.Cons.length : Int) ≤ (k : Int)) = false := by simp; omega
        rw [f1, f2, show (c.Name.toList == s.toList) = true from h3]
        exact k1
    rcases Int.lt_or_le (at1 (hasName s) a) 0 with h0 | h0
    · have e4 : decide ((a.length : Int) ≤ at1 (hasName s) a) = false := by simp; omega
      have e5 : decide ((0 : Int) ≤ at1 (hasName s) a) = false := by simp; omega
      rw [e4, e5]
      simpa using key (fun b => bif b then some false else some true) rfl rfl
    · obtain ⟨i, x, e, h1, h2, _⟩ := at1_some h0
      have l1 := (List.getElem?_eq_some_iff.1 h1).1
      rw [e]
      have e4 : decide ((a.length : Int) ≤ (i : Int)) = false := by simp; omega
      have e5 : decide ((0 : Int) ≤ (i : Int)) = true := by simp
      rw [e4, e5, idx_nat, h1, Option.bind_some, show (x.Name.toList == s.toList) = true from h2]
      simpa using key (fun b => bif b then some false else some true) rfl rfl

end Go.Proofs.Ytappiofmkoelnaa.M
