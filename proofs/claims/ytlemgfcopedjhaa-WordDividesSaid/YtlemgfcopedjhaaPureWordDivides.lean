/- Quotient and rest make up the number; the rest is less than what was divided by, and has the number's sign; by 1 nothing is changed: for all numbers. -/
import Derived.Test.YtlemgfcopedjhaaPWordx2
import Derived.Test.YtlemgfcopedjhaaWordBase
namespace Go.Proofs.Ytlemgfcopedjhaa.Pure
open Go.RowKit Go.Proofs.Ytlemgfcopedjhaa.PWord Go.Proofs.YtlemgfcopedjhaaW.PrintWords Go.Proofs.YtlemgfcopedjhaaW.PrintLast Go.Proofs.Ytlemgfcopedjhaa.WordPlain Go.Proofs.Ytlemgfcopedjhaa.WordBase
theorem tmod_abs (x y : Int) (hy : y ≠ 0) : -(y.natAbs : Int) < Int.tmod x y ∧ Int.tmod x y < y.natAbs := by
  have h := Int.natAbs_tmod x y
  have h2 := Nat.mod_lt x.natAbs (show 0 < y.natAbs by omega)
  omega
theorem tmod_sign (x y : Int) : (x < 0 → Int.tmod x y ≤ 0) ∧ (0 ≤ x → 0 ≤ Int.tmod x y) := by
  refine ⟨fun h => ?_, fun h => Int.tmod_nonneg y h⟩
  have h1 := Int.tmod_nonneg y (show 0 ≤ -x by omega)
  rw [Int.neg_tmod] at h1
  omega
/-- The rest. -/
def rest (x y : Int) : Int := if y = 0 then x else w63 (Int.tmod x y)
/-- The quotient. -/
def quot (x y : Int) : Int := if y = 0 then 0 else w63 (Int.tdiv x y)
theorem rest_of (x y : Int) (hy : y ≠ 0) (h1 : -4611686018427387904 ≤ y) (h2 : y < 4611686018427387904) : rest x y = Int.tmod x y := by
  have := tmod_abs x y hy
  unfold rest; rw [if_neg hy]; exact w63_id _ (by omega) (by omega)
theorem rest_bd (x y : Int) (h1 : -4611686018427387904 ≤ y) (h2 : y < 4611686018427387904) (hx1 : -4611686018427387904 ≤ x) (hx2 : x < 4611686018427387904) : -4611686018427387904 ≤ rest x y ∧ rest x y < 4611686018427387904 := by
  by_cases hy : y = 0
  · unfold rest; rw [if_pos hy]; exact ⟨hx1, hx2⟩
  · have := tmod_abs x y hy
    rw [rest_of x y hy h1 h2]; omega
theorem rest_sign (x y : Int) (h1 : -4611686018427387904 ≤ y) (h2 : y < 4611686018427387904) (h : rest x y ≠ 0) : decide (rest x y < 0) = decide (x < 0) := by
  by_cases hy : y = 0
  · unfold rest; rw [if_pos hy]
  · have hs := tmod_sign x y
    rw [rest_of x y hy h1 h2] at h ⊢
    by_cases hx : x < 0
    · have := hs.1 hx; rw [decide_eq_true hx, decide_eq_true (by omega)]
    · have := hs.2 (by omega); rw [decide_eq_false hx, decide_eq_false (by omega)]
theorem sum_up (a b : Int) : w63 (w63 (quot (w63 a) (w63 b) * b) + rest (w63 a) (w63 b)) = w63 a := by
  have hb1 := w63_lo b
  have hb2 := w63_hi b
  by_cases hy : w63 b = 0
  · unfold quot rest; rw [if_pos hy, if_pos hy, Int.zero_mul, w63_add_l, Int.zero_add, w63_w63]
  · rw [rest_of _ _ hy hb1 hb2]
    unfold quot; rw [if_neg hy, w63_add_l, ← w63_add_l, ← w63_mul, w63_w63, ← w63_mul_l, w63_w63, w63_mul_l, w63_add_l, Int.tdiv_mul_add_tmod, w63_w63]
theorem WordDivides : handloomlaw01_WordDivides.Pure := by
  intro a b _ _
  refine ⟨3, ?_⟩
  have hb1 := w63_lo b
  have hb2 := w63_hi b
  have ha1 := w63_lo a
  have ha2 := w63_hi a
  have dq : word_Do.f 3 a b = some (quot (w63 a) (w63 b)) := do_div a b
  have dr : word_Do.f 4 a b = some (rest (w63 a) (w63 b)) := do_mod a b
  have d1 : word_Do.f 3 a 1 = some (w63 a) := by
    rw [do_div, show w63 1 = 1 from rfl, if_neg (by decide), Int.tdiv_one, w63_w63]
  have m1 : word_Do.f 4 a 1 = some 0 := by
    rw [do_mod, show w63 1 = 1 from rfl, if_neg (by decide), Int.tmod_one]; rfl
  have su := sum_up a b
  have rb := rest_bd (w63 a) (w63 b) hb1 hb2 ha1 ha2
  have rs := rest_sign (w63 a) (w63 b) hb1 hb2
  have ru : w63 b ≠ 0 → -((w63 b).natAbs : Int) < rest (w63 a) (w63 b) ∧ rest (w63 a) (w63 b) < (w63 b).natAbs := fun h => by
    rw [rest_of _ _ h hb1 hb2]; exact tmod_abs _ _ h
  unfold handloomlaw01_WordDivides.f
  rw [dq, dr]
  simp only [wrap_eq, Option.bind_some]
  generalize rest (w63 a) (w63 b) = r at *
  generalize quot (w63 a) (w63 b) = q at *
  -- the last part
  have last : ∀ u v : Int, (u = 0 ∨ v < u) → handloomlaw01_WordDivides.j2 1 b q r u v (w63 a) false = some true := by
    intro u v h
    simp only [handloomlaw01_WordDivides.j2, do_mul, do_add, awake_eq, Option.bind_some]
    rw [if_neg (by decide), if_pos su]
    by_cases hu : u = 0
    · rw [if_pos hu]
    · rw [if_neg hu, if_pos (by omega)]
  have mid : ∀ u v : Int, (u = 0 ∨ v < u) → handloomlaw01_WordDivides.j1 2 a b q r u v (w63 a) = some true := by
    intro u v h
    simp only [handloomlaw01_WordDivides.j1, d1, m1, Option.bind_some]
    by_cases hr : r = 0
    · rw [if_pos hr, if_pos trivial]; exact last u v h
    · rw [if_neg hr, if_neg (by rw [rs hr]; simp), if_pos trivial]; exact last u v h
  have top : ∀ v : Int, (w63 b ≠ 0 → v < (w63 b).natAbs) → handloomlaw01_WordDivides.j0 3 a b q r (w63 b) v (w63 a) = some true := by
    intro v h
    simp only [handloomlaw01_WordDivides.j0]
    by_cases hb : w63 b < 0
    · have e : wrap64 (-w63 b) = -w63 b := by unfold wrap64; omega
      rw [if_pos hb, e]; exact mid _ _ (Or.inr (by have := h (by omega); omega))
    · rw [if_neg hb]
      by_cases h0 : w63 b = 0
      · exact mid _ _ (Or.inl h0)
      · exact mid _ _ (Or.inr (by have := h h0; omega))
  by_cases hr : r < 0
  · have e : wrap64 (-r) = -r := by unfold wrap64; omega
    rw [if_pos hr, e]; exact top _ (fun h => by have := ru h; omega)
  · rw [if_neg hr]; exact top _ (fun h => by have := ru h; omega)

end Go.Proofs.Ytlemgfcopedjhaa.Pure
