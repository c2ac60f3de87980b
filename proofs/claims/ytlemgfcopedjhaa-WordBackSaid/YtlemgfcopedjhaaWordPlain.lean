/- Plain facts on numbers of 63 bits: Wrap is the balanced rest by 2^63; sums, differences and products pass through it. -/
import Derived.RowKit
namespace Go.Proofs.Ytlemgfcopedjhaa.WordPlain
open Go.RowKit
/-- A number in 63 bits. -/
def w63 (a : Int) : Int := (a + 4611686018427387904) % 9223372036854775808 - 4611686018427387904
theorem w63_of (a : Int) : wrap64 (a * 2) / 2 = w63 a := by unfold wrap64 w63; omega
theorem w63_lo (a : Int) : -4611686018427387904 ≤ w63 a := by unfold w63; omega
theorem w63_hi (a : Int) : w63 a < 4611686018427387904 := by unfold w63; omega
theorem w63_id (a : Int) (h : -4611686018427387904 ≤ a) (h2 : a < 4611686018427387904) : w63 a = a := by unfold w63; omega
theorem w63_w63 (a : Int) : w63 (w63 a) = w63 a := w63_id _ (w63_lo a) (w63_hi a)
theorem w63_wrap64 (a : Int) : w63 (wrap64 a) = w63 a := by unfold w63 wrap64; omega
theorem wrap64_w63 (a : Int) : wrap64 (w63 a) = w63 a := by unfold w63 wrap64; omega
/-- What w63 leaves out is a multiple of 2^63. -/
theorem w63_mod (a : Int) : ∃ q : Int, a = w63 a + 9223372036854775808 * q := ⟨(a + 4611686018427387904) / 9223372036854775808, by unfold w63; omega⟩
theorem w63_congr (a b q : Int) (h : a = b + 9223372036854775808 * q) : w63 a = w63 b := by unfold w63; omega
theorem w63_add (a b : Int) : w63 (w63 a + w63 b) = w63 (a + b) := by
  obtain ⟨p, hp⟩ := w63_mod a
  obtain ⟨q, hq⟩ := w63_mod b
  exact (w63_congr (a + b) (w63 a + w63 b) (p + q) (by omega)).symm
theorem w63_sub (a b : Int) : w63 (w63 a - w63 b) = w63 (a - b) := by
  obtain ⟨p, hp⟩ := w63_mod a
  obtain ⟨q, hq⟩ := w63_mod b
  exact (w63_congr (a - b) (w63 a - w63 b) (p - q) (by omega)).symm
theorem w63_mul (a b : Int) : w63 (w63 a * w63 b) = w63 (a * b) := by
  obtain ⟨p, hp⟩ := w63_mod a
  obtain ⟨q, hq⟩ := w63_mod b
  refine (w63_congr (a * b) (w63 a * w63 b) (w63 a * q + p * w63 b + 9223372036854775808 * (p * q)) ?_).symm
  generalize w63 a = x at *
  generalize w63 b = y at *
  subst hp; subst hq
  simp only [Int.add_mul, Int.mul_add]
  have e1 : x * (9223372036854775808 * q) = 9223372036854775808 * (x * q) := by rw [Int.mul_left_comm]
  have e2 : 9223372036854775808 * p * y = 9223372036854775808 * (p * y) := by rw [Int.mul_assoc]
  have e3 : 9223372036854775808 * p * (9223372036854775808 * q) = 9223372036854775808 * (9223372036854775808 * (p * q)) := by rw [Int.mul_assoc, Int.mul_left_comm p]
  rw [e1, e2, e3]
  omega
theorem w63_add_l (a b : Int) : w63 (w63 a + b) = w63 (a + b) := by rw [← w63_add, w63_w63, w63_add]
theorem w63_add_r (a b : Int) : w63 (a + w63 b) = w63 (a + b) := by rw [← w63_add, w63_w63, w63_add]
theorem w63_sub_l (a b : Int) : w63 (w63 a - b) = w63 (a - b) := by rw [← w63_sub, w63_w63, w63_sub]
theorem w63_mul_l (a b : Int) : w63 (w63 a * b) = w63 (a * b) := by rw [← w63_mul, w63_w63, w63_mul]
theorem w63_mul_r (a b : Int) : w63 (a * w63 b) = w63 (a * b) := by rw [← w63_mul, w63_w63, w63_mul]
theorem w63_u64 (a : Int) : w63 (IntKind.u64.wrap a) = w63 a := by
  have h : IntKind.u64.wrap a = a % 18446744073709551616 := by simp [IntKind.wrap, IntKind.bits, IntKind.signed]
  rw [h]; unfold w63; omega
theorem u64_eq (a : Int) : IntKind.u64.wrap a = a % 18446744073709551616 := by simp [IntKind.wrap, IntKind.bits, IntKind.signed]
theorem w63_u64_mul (a b : Int) : w63 (IntKind.u64.wrap (IntKind.u64.wrap a * IntKind.u64.wrap b)) = w63 (a * b) := by
  rw [w63_u64, ← w63_mul, w63_u64, w63_u64, w63_mul]
end Go.Proofs.Ytlemgfcopedjhaa.WordPlain
