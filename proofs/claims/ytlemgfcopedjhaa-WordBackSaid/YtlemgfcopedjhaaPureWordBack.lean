/- A number's word is read as it, a place's too, and no word is both: for any number, any place, any word. -/
import Derived.Test.YtlemgfcopedjhaaPWordx2
import Derived.Test.YtlemgfcopedjhaaWordBase
namespace Go.Proofs.Ytlemgfcopedjhaa.Pure
open Go.RowKit Go.Proofs.Ytlemgfcopedjhaa.PWord Go.Proofs.YtlemgfcopedjhaaW.PrintWords Go.Proofs.YtlemgfcopedjhaaW.PrintLast Go.Proofs.Ytlemgfcopedjhaa.WordPlain Go.Proofs.Ytlemgfcopedjhaa.WordBase
theorem WordBack : handloomlaw01_WordBack.Pure := by
  intro a p w ha hp hw
  have hp1 := Go.bounds_u32 hp
  have hw1 := Go.bounds_u64 hw
  unfold handloomlaw01_WordBack.f
  rw [imm_val, ptr_val p (by omega) (by omega)]
  simp only [Option.bind_some]
  rw [num_imm, at_ptr p (by omega) (by omega), num_val w (by omega) (by omega), at_val w (by omega) (by omega)]
  simp only [Option.bind_some, wrap_eq, awake_eq]
  simp only [if_true]
  have e1 : (if p = 0 then (0, false) else (p, true) : Int × Bool) = (p, decide (p > 0)) := by
    by_cases h0 : p = 0
    · subst h0; rfl
    · rw [if_neg h0, decide_eq_true (by omega)]
  rw [e1]
  simp only [if_true, bne_self_eq_false]
  by_cases h : w % 2 = 0
  · rw [if_pos h]; simp
  · rw [if_neg h, if_pos (by omega : w % 2 = 1)]; simp

end Go.Proofs.Ytlemgfcopedjhaa.Pure
