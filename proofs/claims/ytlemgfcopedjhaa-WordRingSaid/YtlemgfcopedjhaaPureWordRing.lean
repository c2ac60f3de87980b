/- Sums and products in 63 bits do not hang on order or brackets, products of sums are sums of products, a difference undoes a sum: for all numbers. -/
import Derived.Test.YtlemgfcopedjhaaPWordx1
import Derived.Test.YtlemgfcopedjhaaWordBase
namespace Go.Proofs.Ytlemgfcopedjhaa.Pure
open Go.RowKit Go.Proofs.Ytlemgfcopedjhaa.PWord Go.Proofs.YtlemgfcopedjhaaW.PrintWords Go.Proofs.YtlemgfcopedjhaaW.PrintLast Go.Proofs.Ytlemgfcopedjhaa.WordPlain Go.Proofs.Ytlemgfcopedjhaa.WordBase
theorem WordRing : handloomlaw01_WordRing.Pure := by
  intro a b c _ _ _
  refine ⟨1, ?_⟩
  have e1 : w63 (a + b) = w63 (b + a) := by rw [Int.add_comm]
  have e2 : w63 (a * b) = w63 (b * a) := by rw [Int.mul_comm]
  have e3 : w63 (w63 (a + b) + c) = w63 (a + w63 (b + c)) := by rw [w63_add_l, w63_add_r, Int.add_assoc]
  have e4 : w63 (w63 (a * b) * c) = w63 (a * w63 (b * c)) := by rw [w63_mul_l, w63_mul_r, Int.mul_assoc]
  have e5 : w63 (w63 (a + b) * c) = w63 (w63 (a * c) + w63 (b * c)) := by rw [w63_mul_l, w63_add, Int.add_mul]
  have e6 : w63 (w63 (a + b) - b) = w63 a := by rw [w63_sub_l, Int.add_sub_cancel]
  have e7 : w63 (a * 1) = w63 a := by rw [Int.mul_one]
  have g1 := w63_lo (a + b)
  have g2 := w63_hi (a + b)
  unfold handloomlaw01_WordRing.f handloomlaw01_WordRing_1.f handloomlaw01_WordRing_2.f
  simp only [do_add, do_mul, Option.bind_some]
  rw [if_pos e1, if_pos e2, if_pos e3, bne_eq_false_iff_eq.mpr e4]
  simp only [handloomlaw01_WordRing.j0, handloomlaw01_WordRing_1.f, handloomlaw01_WordRing_2.f, do_add, do_mul, do_sub, wrap_eq, awake_eq, Option.bind_some]
  rw [if_neg (by decide), if_pos e5, if_pos e6, if_pos g1, if_pos g2, if_pos e7]

end Go.Proofs.Ytlemgfcopedjhaa.Pure
