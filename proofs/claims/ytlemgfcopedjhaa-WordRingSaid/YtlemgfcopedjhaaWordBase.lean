/- What the functions of package word come to, in closed form. -/
import Derived.Test.YtlemgfcopedjhaaPWordx1
import Derived.Test.YtlemgfcopedjhaaPWordx2
import Derived.Test.YtlemgfcopedjhaaWordPlain
import Derived.Laws.Bits64b
import Derived.WalkSmall
import Derived.OpenShut
namespace Go.Proofs.Ytlemgfcopedjhaa.WordBase
open Go.RowKit Go.Proofs.Ytlemgfcopedjhaa.PWord Go.Proofs.Ytlemgfcopedjhaa.WordPlain
theorem wrapped_eq (a : Int) : word_wrapped.f a = some (w63 a) := by unfold word_wrapped.f; rw [w63_of]
theorem wrap_eq (a : Int) : word_Wrap.f a = some (w63 a) := by unfold word_Wrap.f; rw [wrapped_eq]; rfl
theorem do_add (a b : Int) : word_Do.f 0 a b = some (w63 (a + b)) := by
  unfold word_Do.f word_number_add.f
  simp only [if_true, wrapped_eq, wrap_eq, Option.bind_some, w63_wrap64, w63_add]
theorem do_sub (a b : Int) : word_Do.f 1 a b = some (w63 (a - b)) := by
  unfold word_Do.f word_number_sub.f
  rw [if_neg (by decide), if_pos rfl]
  simp only [wrapped_eq, wrap_eq, Option.bind_some, w63_wrap64, w63_sub]
theorem do_mul (a b : Int) : word_Do.f 2 a b = some (w63 (a * b)) := by
  unfold word_Do.f word_number_mul.f bits_Mul64.f
  rw [if_neg (by decide), if_neg (by decide), if_pos rfl]
  simp only [wrapped_eq, wrap_eq, Option.bind_some, w63_wrap64, w63_u64_mul, w63_mul]
theorem do_div (a b : Int) : word_Do.f 3 a b = some (if w63 b = 0 then 0 else w63 (Int.tdiv (w63 a) (w63 b))) := by
  unfold word_Do.f word_number_div.f
  rw [if_neg (by decide), if_neg (by decide), if_neg (by decide), if_pos rfl]
  simp only [wrapped_eq, Option.bind_some]
  by_cases h : w63 b = 0
  · rw [if_pos h, if_pos h]; simp only [Option.bind_some, wrap_eq]; rfl
  · rw [if_neg h, if_neg h]; simp only [Option.bind_some, wrap_eq, w63_wrap64]
theorem do_mod (a b : Int) : word_Do.f 4 a b = some (if w63 b = 0 then w63 a else w63 (Int.tmod (w63 a) (w63 b))) := by
  unfold word_Do.f word_number_mod.f
  rw [if_neg (by decide), if_neg (by decide), if_neg (by decide), if_neg (by decide), if_pos rfl]
  simp only [wrapped_eq, Option.bind_some]
  by_cases h : w63 b = 0
  · rw [if_pos h, if_pos h]; simp only [Option.bind_some, wrap_eq, w63_w63]
  · rw [if_neg h, if_neg h]; simp only [Option.bind_some, wrap_eq]
theorem do_other (op a b : Int) (h0 : op ≠ 0) (h1 : op ≠ 1) (h2 : op ≠ 2) (h3 : op ≠ 3) (h4 : op ≠ 4) : word_Do.f op a b = some 0 := by
  unfold word_Do.f
  rw [if_neg h0, if_neg h1, if_neg h2, if_neg h3, if_neg h4]
theorem asks_lt (a b : Int) : word_Asks.f 5 a b = some (decide (w63 a < w63 b)) := by
  unfold word_Asks.f; simp only [wrapped_eq, Option.bind_some, if_true]
theorem asks_le (a b : Int) : word_Asks.f 6 a b = some (decide (w63 a ≤ w63 b)) := by
  unfold word_Asks.f; simp only [wrapped_eq, Option.bind_some]; rw [if_neg (by decide), if_pos trivial]
theorem asks_eq (a b : Int) : word_Asks.f 7 a b = some (w63 a == w63 b) := by
  unfold word_Asks.f; simp only [wrapped_eq, Option.bind_some]; rw [if_neg (by decide), if_neg (by decide), if_pos trivial]
theorem awake_eq : handloomlaw01_awake.f = some true := by decide +kernel
theorem imm_val (a : Int) : word_Imm.f a = some (2 * (a % 9223372036854775808) + 1) := by
  unfold word_Imm.f
  have e : IntKind.u64.wrap ((IntKind.u64.wrap a) * 2) = 2 * (a % 9223372036854775808) := by rw [u64_eq, u64_eq]; omega
  rw [e]
  obtain ⟨n, hn⟩ := Int.eq_ofNat_of_zero_le (show 0 ≤ a % 9223372036854775808 by omega)
  have hlt : n < 9223372036854775808 := by omega
  rw [hn]
  have h := bits_or_u64_nat (n <<< 1) 1 (by rw [Nat.shiftLeft_eq]; omega) (by omega)
  rw [← Nat.shiftLeft_add_eq_or_of_lt (i := 1) (b := 1) (by decide) n, Nat.shiftLeft_eq] at h
  rw [show (2 * (n : Int)) = ((n * 2 ^ 1 : Nat) : Int) by omega]
  have h' : Go.bits .or .u64 ((n * 2 ^ 1 : Nat) : Int) 1 = ((n * 2 ^ 1 + 1 : Nat) : Int) := h
  rw [h']
  congr 1
theorem num_val (w : Int) (h1 : 0 ≤ w) (h2 : w < 18446744073709551616) : word_Num.f w = some (if w % 2 = 0 then (0, false) else (w63 (w / 2), true)) := by
  unfold word_Num.f
  rw [and_one_u64 w h1 (by omega)]
  by_cases h : w % 2 = 0
  · rw [if_pos h, if_pos h]
  · rw [if_neg h, if_neg h]; congr 2; unfold wrap64 w63; omega
theorem num_imm (a : Int) : word_Num.f (2 * (a % 9223372036854775808) + 1) = some (w63 a, true) := by
  rw [num_val _ (by omega) (by omega), if_neg (by omega)]; congr 2; unfold w63; omega
theorem ptr_val (p : Int) (h1 : 0 ≤ p) (h2 : p < 4294967296) : word_Ptr.f p = some (2 * p) := by
  unfold word_Ptr.f; rw [u64_eq, u64_eq]; congr 1; omega
theorem at_val (w : Int) (h1 : 0 ≤ w) (h2 : w < 18446744073709551616) : word_At.f w = some (if w % 2 = 1 then (0, false) else if w = 0 ∨ w ≥ 8589934592 then (0, false) else (w / 2, true)) := by
  unfold word_At.f
  rw [and_one_u64 w h1 (by omega)]
  by_cases h : w % 2 = 1
  · rw [if_pos h, if_pos h]
  · rw [if_neg h, if_neg h]
    by_cases h3 : w / 8589934592 = 0
    · rw [if_pos h3]
      by_cases h0 : w = 0
      · rw [if_pos h0, if_pos (Or.inl h0)]
      · rw [if_neg h0, if_neg (by omega)]; congr 2; omega
    · rw [if_neg h3, if_pos (by omega)]
theorem at_ptr (p : Int) (h1 : 0 ≤ p) (h2 : p < 4294967296) : word_At.f (2 * p) = some (if p = 0 then (0, false) else (p, true)) := by
  rw [at_val _ (by omega) (by omega), if_neg (by omega)]
  by_cases h : p = 0
  · rw [if_pos h, if_pos (by omega)]
  · rw [if_neg h, if_neg (by omega)]; congr 2; omega
end Go.Proofs.Ytlemgfcopedjhaa.WordBase
