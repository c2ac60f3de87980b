/- No rune is of two classes; what is of one is a rune: for any rune. -/
import Derived.Test.YtlemgfcopedjhaaPRunesx7
import Derived.Test.YtlemgfcopedjhaaRuneLaw
namespace Go.Proofs.Ytlemgfcopedjhaa.Pure
open Go.RowKit Go.Proofs.Ytlemgfcopedjhaa.PRunes Go.Proofs.YtlemgfcopedjhaaW.PrintWords Go.Proofs.YtlemgfcopedjhaaW.PrintLast Go.Proofs.Ytlemgfcopedjhaa.RunePlain Go.Proofs.Ytlemgfcopedjhaa.RuneBase Go.Proofs.Ytlemgfcopedjhaa.RuneLaw
theorem RunesClass : handloomlaw02_RunesClass.Pure := by
  intro c hc
  have hc1 := i32b hc
  refine ⟨20 + 1, ?_⟩
  unfold handloomlaw02_RunesClass.f
  rw [low_eq, up_eq, digit_eq, blank_eq]
  simp only [Option.bind_some]
  have fin : ∀ n : Int, (n = 0 ∨ n = 1 ∧ okR c) → handloomlaw02_RunesClass.l0 17 c n [decide (97 ≤ c ∧ c ≤ 122 ∨ 128 ≤ c ∧ okR c), decide (65 ≤ c ∧ c ≤ 90), decide (48 ≤ c ∧ c ≤ 57), decide (c = 9 ∨ c = 10 ∨ c = 13 ∨ c = 32)] 4 4 = some true := by
    intro n hn
    generalize hk : (16 : Nat) = k
    rw [show (17 : Nat) = k + 1 by omega]
    simp only [handloomlaw02_RunesClass.l0]
    rw [if_neg (by decide), if_pos (by omega), awake_eq k (by omega)]
    by_cases h0 : n = 0
    · rw [if_pos h0]; rfl
    · have ho : okR c := (hn.resolve_left h0).2
      have hp := enc_pos c ho
      obtain ⟨q, hq⟩ : ∃ q, k = q + 1 := ⟨k - 1, by omega⟩
      rw [if_neg h0, hq, put_eq q c (by omega) (by omega)]
      simp only [Option.bind_some]
      rw [if_pos (by omega)]
  have step : ∀ (k : Nat) (n : Int) (L : List Bool) (j : Nat) (b : Bool), L[j]? = some b → L.length = 4 → handloomlaw02_RunesClass.l0 (k + 1) c n L 4 (j : Int) = if b = true then handloomlaw02_RunesClass.l0 k c (wrap64 (n + 1)) L 4 ((j + 1 : Nat) : Int) else handloomlaw02_RunesClass.l0 k c n L 4 ((j + 1 : Nat) : Int) := by
    intro k n L j b hb hL
    have hj : j < L.length := (List.getElem?_eq_some_iff.1 hb).1
    simp only [handloomlaw02_RunesClass.l0]
    have e : rdOf false L (j : Int) = b := by unfold rdOf; simp [List.getD, hb]
    rw [if_pos (by omega), if_pos (by omega), if_pos (by omega), e, show wrap64 ((j : Int) + 1) = ((j + 1 : Nat) : Int) by unfold wrap64; omega]
  have w1 : wrap64 (0 + 1) = 1 := by decide +kernel
  show handloomlaw02_RunesClass.l0 (17 + 3 + 1) c 0 _ 4 ((0 : Nat) : Int) = some true
  rw [step _ _ _ 0 _ rfl rfl]
  unfold okR at *
  by_cases a0 : 97 ≤ c ∧ c ≤ 122 ∨ 128 ≤ c ∧ (0 ≤ c ∧ (c < 55296 ∨ 57344 ≤ c ∧ c ≤ 1114111))
  · have a1 : ¬ (65 ≤ c ∧ c ≤ 90) := by omega
    have a2 : ¬ (48 ≤ c ∧ c ≤ 57) := by omega
    have a3 : ¬ (c = 9 ∨ c = 10 ∨ c = 13 ∨ c = 32) := by omega
    rw [if_pos (decide_eq_true a0), step _ _ _ (0 + 1) _ rfl rfl, if_neg (by simpa using a1), step _ _ _ (0 + 1 + 1) _ rfl rfl, if_neg (by simpa using a2), step _ _ _ (0 + 1 + 1 + 1) _ rfl rfl, if_neg (by simpa using a3), w1]
    exact fin 1 (Or.inr ⟨rfl, by omega⟩)
  rw [if_neg (by simpa using a0), step _ _ _ (0 + 1) _ rfl rfl]
  by_cases a1 : 65 ≤ c ∧ c ≤ 90
  · have a2 : ¬ (48 ≤ c ∧ c ≤ 57) := by omega
    have a3 : ¬ (c = 9 ∨ c = 10 ∨ c = 13 ∨ c = 32) := by omega
    rw [if_pos (decide_eq_true a1), step _ _ _ (0 + 1 + 1) _ rfl rfl, if_neg (by simpa using a2), step _ _ _ (0 + 1 + 1 + 1) _ rfl rfl, if_neg (by simpa using a3), w1]
    exact fin 1 (Or.inr ⟨rfl, by omega⟩)
  rw [if_neg (by simpa using a1), step _ _ _ (0 + 1 + 1) _ rfl rfl]
  by_cases a2 : 48 ≤ c ∧ c ≤ 57
  · have a3 : ¬ (c = 9 ∨ c = 10 ∨ c = 13 ∨ c = 32) := by omega
    rw [if_pos (decide_eq_true a2), step _ _ _ (0 + 1 + 1 + 1) _ rfl rfl, if_neg (by simpa using a3), w1]
    exact fin 1 (Or.inr ⟨rfl, by omega⟩)
  rw [if_neg (by simpa using a2), step _ _ _ (0 + 1 + 1 + 1) _ rfl rfl]
  by_cases a3 : c = 9 ∨ c = 10 ∨ c = 13 ∨ c = 32
  · rw [if_pos (decide_eq_true a3), w1]
    exact fin 1 (Or.inr ⟨rfl, by omega⟩)
  rw [if_neg (by simpa using a3)]
  exact fin 0 (Or.inl rfl)

end Go.Proofs.Ytlemgfcopedjhaa.Pure
