/- A text's runes and places, the place of a byte, classes, and a rune's bytes, are the document's: for any text up to some thousands of bytes, any number, any rune. -/
import Derived.Test.YtlemgfcopedjhaaPRunesx11
import Derived.Test.YtlemgfcopedjhaaRuneLaw
namespace Go.Proofs.Ytlemgfcopedjhaa.Pure
open Go.RowKit Go.Proofs.Ytlemgfcopedjhaa.PRunes Go.Proofs.YtlemgfcopedjhaaW.PrintWords Go.Proofs.YtlemgfcopedjhaaW.PrintLast Go.Proofs.Ytlemgfcopedjhaa.RunePlain Go.Proofs.Ytlemgfcopedjhaa.RuneBase Go.Proofs.Ytlemgfcopedjhaa.RuneLaw
theorem rput_eq (c : Int) (hc1 : -2147483648 ≤ c) (hc2 : c ≤ 2147483647) : handloomref02_Put.f c = some (enc c) := by
  unfold handloomref02_Put.f
  rw [scalar_eq]
  simp only [Option.bind_some]
  by_cases h : 0 ≤ c ∧ (c < 55296 ∨ (57344 ≤ c ∧ c ≤ 1114111))
  · rw [if_pos (decide_eq_true h)]
    unfold enc
    rw [if_pos h]
    have hd : ∀ m : Int, Int.tdiv c m = c / m := fun m => Int.tdiv_eq_ediv_of_nonneg h.1
    have hm : ∀ m : Int, Int.tmod c m = c % m := fun m => Int.tmod_eq_emod_of_nonneg h.1
    rw [hd, hd, hd, hm]
    have w1 : wrap32 (c / 64) = c / 64 := by unfold wrap32; omega
    have w2 : wrap32 (c / 4096) = c / 4096 := by unfold wrap32; omega
    have w3 : wrap32 (c / 262144) = c / 262144 := by unfold wrap32; omega
    rw [w1, w2, w3, Int.tmod_eq_emod_of_nonneg (show 0 ≤ c / 64 by omega), Int.tmod_eq_emod_of_nonneg (show 0 ≤ c / 4096 by omega)]
    by_cases h1 : c < 128
    · rw [if_pos h1, if_pos h1]; congr 2; omega
    rw [if_neg h1, if_neg h1]
    by_cases h2 : c < 2048
    · rw [if_pos h2, if_pos h2]
      have a1 : wrap32 (192 + c / 64) % 256 = 192 + c / 64 := by unfold wrap32; omega
      have a2 : wrap32 (128 + c % 64) % 256 = 128 + c % 64 := by unfold wrap32; omega
      rw [a1, a2]
    rw [if_neg h2, if_neg h2]
    by_cases h3 : c < 65536
    · rw [if_pos h3, if_pos h3]
      have a1 : wrap32 (224 + c / 4096) % 256 = 224 + c / 4096 := by unfold wrap32; omega
      have a2 : wrap32 (128 + c % 64) % 256 = 128 + c % 64 := by unfold wrap32; omega
      have a3 : wrap32 (128 + c / 64 % 64) % 256 = 128 + c / 64 % 64 := by unfold wrap32; omega
      rw [a1, a2, a3]
    rw [if_neg h3, if_neg h3]
    have a1 : wrap32 (240 + c / 262144) % 256 = 240 + c / 262144 := by unfold wrap32; omega
    have a2 : wrap32 (128 + c % 64) % 256 = 128 + c % 64 := by unfold wrap32; omega
    have a3 : wrap32 (128 + c / 64 % 64) % 256 = 128 + c / 64 % 64 := by unfold wrap32; omega
    have a4 : wrap32 (128 + c / 4096 % 64) % 256 = 128 + c / 4096 % 64 := by unfold wrap32; omega
    rw [a1, a2, a3, a4]
  · rw [if_neg (by simpa using h)]; unfold enc; rw [if_neg h]
theorem RunesDoes : handloomlaw02_RunesDoes.Pure := by
  intro s off c _ _ hc
  have hc1 := i32b hc
  have hlen := split_len s
  refine ⟨2 * s.size + 20000 + 1, ?_⟩
  have main : handloomlaw02_RunesDoes.j0 (2 * s.size + 20000 + 1) s off c false = some true := by
    generalize hk : 2 * s.size + 20000 = k
    obtain ⟨q, hq⟩ : ∃ q, k = q + 1 := ⟨k - 1, by omega⟩
    simp only [handloomlaw02_RunesDoes.j0]
    rw [if_neg (by decide), split_eq s k (by omega), rsplit_eq s k (by omega)]
    simp only [Option.bind_some]
    rw [same_eq _ (by omega) k (by omega)]
    simp only [Option.bind_some, if_true, beq_self_eq_true, Bool.and_self]
    rw [place_eq s off k (by omega), rplace_eq s off k (by omega)]
    simp only [Option.bind_some, if_true, beq_self_eq_true, Bool.and_self]
    rw [hq, low_eq, rlow_eq]
    simp only [Option.bind_some, if_true, beq_self_eq_true]
    have hu : handloomref02_Up.f c = runes_Up.f c := rfl
    have hd : handloomref02_Digit.f c = runes_Digit.f c := rfl
    rw [hu, hd, up_eq, digit_eq, blank_eq, rblank_eq, put_eq q c (by omega) (by omega), rput_eq c (by omega) (by omega), awake_eq (q + 1) (by omega)]
    simp only [Option.bind_some, if_true, beq_self_eq_true, bytes_self]
  unfold handloomlaw02_RunesDoes.f
  split
  · by_cases h : (s.size : Int) ≤ 16384
    · rw [decide_eq_true h]
      simp only [handloomlaw02_RunesDoes.j0]
      rw [if_pos trivial, awake_eq _ (by omega)]; rfl
    · rw [decide_eq_false h]; exact main
  · exact main

end Go.Proofs.Ytlemgfcopedjhaa.Pure
