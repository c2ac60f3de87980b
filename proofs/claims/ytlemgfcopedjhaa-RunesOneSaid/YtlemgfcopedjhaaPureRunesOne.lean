/- A rune's bytes are a text of just it; unlike runes have unlike bytes; a name's rune is told alike by its class: for any two runes. -/
import Derived.Test.YtlemgfcopedjhaaPRunesx6
import Derived.Test.YtlemgfcopedjhaaRuneLaw
namespace Go.Proofs.Ytlemgfcopedjhaa.Pure
open Go.RowKit Go.Proofs.Ytlemgfcopedjhaa.PRunes Go.Proofs.YtlemgfcopedjhaaW.PrintWords Go.Proofs.YtlemgfcopedjhaaW.PrintLast Go.Proofs.Ytlemgfcopedjhaa.RunePlain Go.Proofs.Ytlemgfcopedjhaa.RuneBase Go.Proofs.Ytlemgfcopedjhaa.RuneLaw
theorem RunesOne : handloomlaw02_RunesOne.Pure := by
  intro c d hc hd
  have hc1 := i32b hc
  have hd1 := i32b hd
  have hl := enc_len c
  refine ⟨40 + 1, ?_⟩
  have fin : handloomlaw02_RunesOne.j0 (40 + 1) c d (enc c) false = some true := by
    generalize hk : (40 : Nat) = k
    obtain ⟨q, hq⟩ : ∃ q, k = q + 1 := ⟨k - 1, by omega⟩
    simp only [handloomlaw02_RunesOne.j0]
    rw [if_neg (by decide), hq, put_eq q d (by omega) (by omega), awake_eq (q + 1) (by omega)]
    simp only [Option.bind_some]
    by_cases h : okR c
    · have hp := enc_pos c h
      rw [if_neg (by omega), bytes_enc c d h]
      simp only [Option.bind_some, beq_self_eq_true, if_true]
      rw [if_pos (by omega)]
    · rw [enc_none c h]; rfl
  unfold handloomlaw02_RunesOne.f
  rw [put_eq 40 c (by omega) (by omega)]
  simp only [Option.bind_some]
  rw [split_eq _ _ (by rw [strOfNums_size]; omega)]
  simp only [Option.bind_some]
  by_cases h : okR c
  · have hp := enc_pos c h
    rw [split_one c h, if_pos (by omega)]
    have e0 : rd_T39 [⟨c, 0, ⟨1, 1⟩⟩] 0 = ⟨c, 0, ⟨1, 1⟩⟩ := rfl
    simp only [if_true]
    rw [e0, if_pos (by simp), if_pos (by simp), if_pos rfl]
    exact fin
  · rw [enc_none c h] at fin ⊢
    rw [if_neg (by decide)]
    exact fin

end Go.Proofs.Ytlemgfcopedjhaa.Pure
