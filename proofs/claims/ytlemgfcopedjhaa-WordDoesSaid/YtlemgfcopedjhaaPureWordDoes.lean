/- Numbers in 63 bits, operators, comparisons, and words, are the document's: for any operator, any numbers, any place, any word. -/
import Derived.Test.YtlemgfcopedjhaaPWordx4
import Derived.Test.YtlemgfcopedjhaaWordBase
namespace Go.Proofs.Ytlemgfcopedjhaa.Pure
open Go.RowKit Go.Proofs.Ytlemgfcopedjhaa.PWord Go.Proofs.YtlemgfcopedjhaaW.PrintWords Go.Proofs.YtlemgfcopedjhaaW.PrintLast Go.Proofs.Ytlemgfcopedjhaa.WordPlain Go.Proofs.Ytlemgfcopedjhaa.WordBase
theorem mask63 (a : Int) : Go.bits .and .u64 (IntKind.u64.wrap a) 9223372036854775807 = a % 9223372036854775808 := by
  rw [u64_eq]
  obtain ⟨n, hn⟩ := Int.eq_ofNat_of_zero_le (show 0 ≤ a % 18446744073709551616 by omega)
  rw [hn]
  have := bits_and_u64_nat n 9223372036854775807 (by omega) (by omega)
  rw [show ((9223372036854775807 : Nat) : Int) = 9223372036854775807 from rfl] at this
  rw [this]
  have e := Nat.and_two_pow_sub_one_eq_mod n 63
  rw [show 2 ^ 63 - 1 = 9223372036854775807 from rfl] at e
  rw [e]
  omega
theorem rwrap (a : Int) : handloomref01_Wrap.f a = some (w63 a) := by
  unfold handloomref01_Wrap.f
  rw [mask63]
  by_cases h : a % 9223372036854775808 ≥ 4611686018427387904
  · rw [if_pos h, u64_eq]; congr 1; unfold wrap64 w63; omega
  · rw [if_neg h]; congr 1; unfold wrap64 w63; omega
theorem rnum (w : Int) (h1 : 0 ≤ w) (h2 : w < 18446744073709551616) : handloomref01_Num.f w = word_Num.f w := by
  rw [num_val w h1 h2]
  unfold handloomref01_Num.f
  rw [Int.tmod_eq_emod_of_nonneg h1, Int.tdiv_eq_ediv_of_nonneg h1]
  by_cases h : w % 2 = 0
  · rw [if_pos h, if_pos h]
  · rw [if_neg h, if_neg h, rwrap, u64_eq]
    simp only [Option.bind_some]
    congr 2; unfold wrap64 w63; omega
theorem rat (w : Int) (h1 : 0 ≤ w) (h2 : w < 18446744073709551616) : handloomref01_At.f w = word_At.f w := by
  rw [at_val w h1 h2]
  unfold handloomref01_At.f
  rw [Int.tmod_eq_emod_of_nonneg h1, Int.tdiv_eq_ediv_of_nonneg h1]
  by_cases h : w % 2 = 1
  · rw [if_pos h, if_pos h]
  · rw [if_neg h, if_neg h]
    by_cases h0 : w = 0
    · rw [if_pos h0, if_pos (Or.inl h0)]
    · rw [if_neg h0]
      by_cases h3 : w ≥ 8589934592
      · rw [if_pos h3, if_pos (Or.inr h3)]
      · rw [if_neg h3, if_neg (by omega), u64_eq]; congr 2; omega
theorem rabs (a : Int) (h1 : -4611686018427387904 ≤ a) (h2 : a < 4611686018427387904) : handloomref01_abs.f a = some (a.natAbs : Int) := by
  unfold handloomref01_abs.f
  rw [u64_eq, u64_eq]
  by_cases h : a < 0
  · rw [if_pos h]; congr 1; unfold wrap64; omega
  · rw [if_neg h]; congr 1; omega
theorem tdiv_abs (x y : Int) : Int.tdiv x y = if (decide (x < 0) != decide (y < 0)) = true then -((x.natAbs : Int) / (y.natAbs : Int)) else (x.natAbs : Int) / (y.natAbs : Int) := by
  by_cases hx : x < 0 <;> by_cases hy : y < 0
  · have e1 : (x.natAbs : Int) = -x := by omega
    have e2 : (y.natAbs : Int) = -y := by omega
    rw [decide_eq_true hx, decide_eq_true hy, if_neg (by decide), e1, e2, ← Int.tdiv_eq_ediv_of_nonneg (by omega), Int.neg_tdiv, Int.tdiv_neg, Int.neg_neg]
  · have e1 : (x.natAbs : Int) = -x := by omega
    have e2 : (y.natAbs : Int) = y := by omega
    rw [decide_eq_true hx, decide_eq_false hy, if_pos (by decide), e1, e2, ← Int.tdiv_eq_ediv_of_nonneg (by omega), Int.neg_tdiv, Int.neg_neg]
  · have e1 : (x.natAbs : Int) = x := by omega
    have e2 : (y.natAbs : Int) = -y := by omega
    rw [decide_eq_false hx, decide_eq_true hy, if_pos (by decide), e1, e2, ← Int.tdiv_eq_ediv_of_nonneg (by omega), Int.tdiv_neg, Int.neg_neg]
  · have e1 : (x.natAbs : Int) = x := by omega
    have e2 : (y.natAbs : Int) = y := by omega
    rw [decide_eq_false hx, decide_eq_false hy, if_neg (by decide), e1, e2, ← Int.tdiv_eq_ediv_of_nonneg (by omega)]
theorem quot_le (x y : Nat) : ((x : Int) / (y : Int)) ≤ x ∧ 0 ≤ (x : Int) / (y : Int) := by
  have h := Nat.div_le_self x y
  rw [← Int.natCast_ediv]
  generalize x / y = q at *
  omega
theorem rj1_div (k x y q : Int) (n : Nat) (h : k = 3) : handloomref01_Do.j1 (n + 1) k x y q = some (w63 q) := by
  simp only [handloomref01_Do.j1, rwrap, Option.bind_some]; rw [if_pos h]
theorem rj1_mod (k x y q : Int) (n : Nat) (h : k ≠ 3) : handloomref01_Do.j1 (n + 1) k x y q = some (w63 (x - y * q)) := by
  simp only [handloomref01_Do.j1, rwrap, Option.bind_some]; rw [if_neg h]
  congr 1
  rw [w63_wrap64, w63_u64, ← w63_sub, w63_u64, w63_u64_mul, w63_sub]
/-- The quotient as the reference comes to it. -/
theorem rj0 (op x y : Int) (n : Nat) (hx1 : -4611686018427387904 ≤ x) (hx2 : x < 4611686018427387904) (hy1 : -4611686018427387904 ≤ y) (hy2 : y < 4611686018427387904) :
    handloomref01_Do.j0 (n + 2) op x y false = if y = 0 then handloomref01_Do.j1 (n + 1) op x y 0 else handloomref01_Do.j1 (n + 1) op x y (Int.tdiv x y) := by
  simp only [handloomref01_Do.j0]
  rw [if_neg (by decide)]
  by_cases hy : y = 0
  · rw [if_pos hy, if_pos hy]
  · rw [if_neg hy, if_neg hy, rabs x hx1 hx2, rabs y hy1 hy2]
    simp only [Option.bind_some]
    rw [if_neg (by omega), tdiv_abs x y, Int.tdiv_eq_ediv_of_nonneg (by omega), u64_eq]
    have hq := quot_le x.natAbs y.natAbs
    generalize (x.natAbs : Int) / (y.natAbs : Int) = q at *
    have e1 : wrap64 (q % 18446744073709551616) = q := by unfold wrap64; omega
    have e2 : wrap64 (-q) = -q := by unfold wrap64; omega
    rw [e1, e2]
    split <;> rfl
theorem rdo (op a b : Int) : ∃ k, handloomref01_Do.f k op a b = word_Do.f op a b := by
  refine ⟨2, ?_⟩
  unfold handloomref01_Do.f
  simp only [rwrap, Option.bind_some]
  by_cases h0 : op = 0
  · subst h0; rw [if_pos rfl, do_add, w63_wrap64, w63_u64, ← w63_add, w63_u64, w63_u64, w63_w63, w63_w63, w63_add]
  rw [if_neg h0]
  by_cases h1 : op = 1
  · subst h1; rw [if_pos rfl, do_sub, w63_wrap64, w63_u64, ← w63_sub, w63_u64, w63_u64, w63_w63, w63_w63, w63_sub]
  rw [if_neg h1]
  by_cases h2 : op = 2
  · subst h2; rw [if_pos rfl, do_mul, w63_wrap64, w63_u64_mul, w63_mul]
  rw [if_neg h2]
  have a1 := w63_lo a
  have a2 := w63_hi a
  have b1 := w63_lo b
  have b2 := w63_hi b
  by_cases h3 : op = 3
  · subst h3
    rw [if_pos rfl, rj0 3 _ _ 0 a1 a2 b1 b2, do_div]
    by_cases hb : w63 b = 0
    · rw [if_pos hb, if_pos hb, rj1_div _ _ _ _ _ rfl]; rfl
    · rw [if_neg hb, if_neg hb, rj1_div _ _ _ _ _ rfl]
  rw [if_neg h3]
  by_cases h4 : op = 4
  · subst h4
    rw [show ((4 : Int) != 4) = false from rfl, rj0 4 _ _ 0 a1 a2 b1 b2, do_mod]
    by_cases hb : w63 b = 0
    · rw [if_pos hb, if_pos hb, rj1_mod _ _ _ _ _ (by decide), Int.mul_zero, Int.sub_zero, w63_w63]
    · rw [if_neg hb, if_neg hb, rj1_mod _ _ _ _ _ (by decide), Int.tmod_def]
  rw [bne_iff_ne.mpr h4, do_other op a b h0 h1 h2 h3 h4]
  simp only [handloomref01_Do.j0]; rw [if_pos trivial]
theorem rasks (op a b : Int) : handloomref01_Asks.f op a b = word_Asks.f op a b := by
  unfold handloomref01_Asks.f word_Asks.f
  simp only [rwrap, wrapped_eq]
theorem rimm (a : Int) : handloomref01_Imm.f a = word_Imm.f a := by
  rw [imm_val]
  unfold handloomref01_Imm.f
  simp only [rwrap, Option.bind_some, u64_eq]
  congr 1; unfold w63; omega
theorem rptr (p : Int) (h1 : 0 ≤ p) (h2 : p < 4294967296) : handloomref01_Ptr.f p = word_Ptr.f p := by
  rw [ptr_val p h1 h2]
  unfold handloomref01_Ptr.f
  simp only [u64_eq]
  congr 1; omega
theorem asks_some (op a b : Int) : ∃ r, word_Asks.f op a b = some r := by
  unfold word_Asks.f; simp only [wrapped_eq, Option.bind_some]; split
  · exact ⟨_, rfl⟩
  · split
    · exact ⟨_, rfl⟩
    · split <;> exact ⟨_, rfl⟩
theorem do_some (op a b : Int) : ∃ r, word_Do.f op a b = some r := by
  by_cases h0 : op = 0
  · subst h0; exact ⟨_, do_add a b⟩
  by_cases h1 : op = 1
  · subst h1; exact ⟨_, do_sub a b⟩
  by_cases h2 : op = 2
  · subst h2; exact ⟨_, do_mul a b⟩
  by_cases h3 : op = 3
  · subst h3; exact ⟨_, do_div a b⟩
  by_cases h4 : op = 4
  · subst h4; exact ⟨_, do_mod a b⟩
  exact ⟨_, do_other op a b h0 h1 h2 h3 h4⟩
theorem WordDoes : handloomlaw01_WordDoes.Pure := by
  intro op a b p w hop ha hb hp hw
  have hp1 := Go.bounds_u32 hp
  have hw1 := Go.bounds_u64 hw
  obtain ⟨k, hk⟩ := rdo op a b
  refine ⟨k, ?_⟩
  obtain ⟨r, hr⟩ := do_some op a b
  obtain ⟨s, hs⟩ := asks_some op a b
  unfold handloomlaw01_WordDoes.f
  rw [rnum w (by omega) (by omega), rat w (by omega) (by omega), hk, rasks, rimm, rptr p (by omega) (by omega), hr, hs, num_val w (by omega) (by omega), at_val w (by omega) (by omega), imm_val, ptr_val p (by omega) (by omega), rwrap]
  simp only [Option.bind_some, wrap_eq, awake_eq, if_true, beq_self_eq_true]

end Go.Proofs.Ytlemgfcopedjhaa.Pure
