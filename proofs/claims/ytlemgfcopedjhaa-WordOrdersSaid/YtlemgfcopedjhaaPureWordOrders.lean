/- Of two numbers one is less, or they are the same; what is less than what is less is less; what is greater by one is greater, but for the greatest: for all numbers. -/
import Derived.Test.YtlemgfcopedjhaaPWordx3
import Derived.Test.YtlemgfcopedjhaaWordBase
namespace Go.Proofs.Ytlemgfcopedjhaa.Pure
open Go.RowKit Go.Proofs.Ytlemgfcopedjhaa.PWord Go.Proofs.YtlemgfcopedjhaaW.PrintWords Go.Proofs.YtlemgfcopedjhaaW.PrintLast Go.Proofs.Ytlemgfcopedjhaa.WordPlain Go.Proofs.Ytlemgfcopedjhaa.WordBase
theorem WordOrders : handloomlaw01_WordOrders.Pure := by
  intro a b c _ _ _
  refine ⟨2, ?_⟩
  have ha1 := w63_lo a
  have ha2 := w63_hi a
  have up : w63 (a + 1) = if w63 a = 4611686018427387903 then -4611686018427387904 else w63 a + 1 := by
    unfold w63; split <;> omega
  have last : handloomlaw01_WordOrders.j1 1 a b (w63 a == w63 b) false = some true := by
    simp only [handloomlaw01_WordOrders.j1, do_add, asks_lt, wrap_eq, awake_eq, Option.bind_some, w63_w63]
    rw [if_neg (by decide), up, if_pos ?_, if_pos (by simp)]
    by_cases h : w63 a = 4611686018427387903
    · rw [if_pos h, h]; decide
    · rw [if_neg h, decide_eq_true (by omega), bne_iff_ne.mpr h]; rfl
  have mid : handloomlaw01_WordOrders.j0 2 a b c (decide (w63 a < w63 b)) (w63 a == w63 b) false = some true := by
    simp only [handloomlaw01_WordOrders.j0, asks_lt, Option.bind_some]
    rw [if_neg (by decide)]
    by_cases h1 : w63 a < w63 b
    · rw [if_pos (decide_eq_true h1)]
      by_cases h2 : w63 b < w63 c
      · rw [if_pos (decide_eq_true h2), decide_eq_true (show w63 a < w63 c by omega)]; exact last
      · rw [if_neg (by simpa using h2)]; exact last
    · rw [if_neg (by simpa using h1)]; exact last
  unfold handloomlaw01_WordOrders.f
  simp only [asks_lt, asks_le, asks_eq, Option.bind_some]
  by_cases h1 : w63 a < w63 b
  · have h2 : ¬ w63 a = w63 b := by omega
    have h3 : ¬ w63 b < w63 a := by omega
    rw [if_pos (decide_eq_true h1), if_neg (by simpa using h2), if_neg (by simpa using h3)]
    have : (decide (w63 a ≤ w63 b) != true) = false := by simp; omega
    rw [this]; exact mid
  · by_cases h2 : w63 a = w63 b
    · have h3 : ¬ w63 b < w63 a := by omega
      rw [if_neg (by simpa using h1), if_pos (by simpa using h2), if_neg (by simpa using h3)]
      have : (decide (w63 a ≤ w63 b) != (w63 a == w63 b)) = false := by simp [h2]
      rw [this]; exact mid
    · have h3 : w63 b < w63 a := by omega
      rw [if_neg (by simpa using h1), if_neg (by simpa using h2), if_pos (decide_eq_true h3)]
      have : (decide (w63 a ≤ w63 b) != (w63 a == w63 b)) = false := by
        rw [decide_eq_false (by omega), beq_eq_false_iff_ne.mpr h2]; rfl
      rw [this]; exact mid

end Go.Proofs.Ytlemgfcopedjhaa.Pure
