/-
  Heads of records.
-/
import Derived.Test.YtfflojbgikfbmaaStkG
namespace Go.Proofs.Ytfflojbgikfbmaa.Hea
open Go.Proofs.YtfflojbgikfbmaaW.Ah
open Go.Proofs.Ytfflojbgikfbmaa.Sta (U Er eU wrap_nsub wrap_pred load_u)
set_option maxRecDepth 4000
set_option linter.unusedVariables false
set_option linter.unusedSimpArgs false
attribute [local simp] T.t3 T.t4 T.t5 T.t26 T.t34 T.t39 T.t40 T.t62 T.t63 T.t70 T.t93 T.t144 Op.maxDepth List.range List.range.loop
attribute [-simp] appendAV cellsOf cellOk partOk
attribute [local simp] cellsOf_sc cellOk_sc partOk_sc cellsOf_own cellOk_own partOk_own cellsOf_osl cellOk_osl partOk_osl cellsOf_sh cellOk_sh partOk_sh cellsOf_ssl cellOk_ssl partOk_ssl cellsOf_esl cellOk_esl partOk_esl cellsOf_fn cellOk_fn partOk_fn cellsOf_omap cellOk_omap partOk_omap cellsOf_agg partOk_agg cellsOf_slv cellOk_slv partOk_slv

theorem wrapu64_id {x : Int} (h1 : 0 ≤ x) (h2 : x < 18446744073709551616) : IntKind.u64.wrap x = x := by
  simp only [IntKind.wrap, IntKind.bits, IntKind.signed]
  simp
  omega
theorem wrapu32_id {x : Int} (h1 : 0 ≤ x) (h2 : x < 4294967296) : IntKind.u32.wrap x = x := by
  simp only [IntKind.wrap, IntKind.bits, IntKind.signed]
  simp
  omega

/-- Which heads can be. -/
def Can (k t c : Int) : Prop := (k = 0 ∧ 0 ≤ t ∧ t ≤ 15 ∧ 0 < c ∧ c ≤ 6) ∨ (k = 1 ∧ t = 0 ∧ 0 ≤ c ∧ c ≤ 64)
instance (k t c : Int) : Decidable (Can k t c) := by unfold Can; infer_instance
/-- The words behind a head and a forward. -/
def body (k c : Int) : Nat := if k = 1 then (c.toNat + 7) / 8 else c.toNat
def size (k t c : Int) : Nat := if Can k t c then 2 + body k c else 0
abbrev hd (k t c : Int) : AV := .agg [I k, I t, I c]

theorem can (k t c : Int) : RunF Try.prog T.T 112 [hd k t c] (B (decide (Can k t c))) := by
  refine RunF.ev 999 Try.func112 rfl rfl rfl rfl rfl fun C hr hn => ?_
  by_cases h0 : k = 0
  · subst h0
    by_cases h1 : 0 ≤ t
    · by_cases h2 : t ≤ 15
      · by_cases h3 : 0 < c
        · by_cases h4 : c ≤ 6
          · simp [h1, h2, h3, h4]
            exact hr _ _ _ (by simp [Can, h1, h2, h3, h4])
          · simp [h1, h2, h3, h4]
            exact hr _ _ _ (by simp [Can, h1, h2, h3, h4])
        · simp [h1, h2, h3]
          exact hr _ _ _ (by simp [Can, h1, h2, h3])
      · simp [h1, h2]
        exact hr _ _ _ (by simp [Can, h1, h2])
    · simp [h1]
      exact hr _ _ _ (by simp [Can, h1])
  · by_cases h1 : k = 1
    · subst h1
      by_cases h2 : t = 0
      · subst h2
        by_cases h3 : 0 ≤ c
        · by_cases h4 : c ≤ 64
          · simp [h3, h4]
            exact hr _ _ _ (by simp [Can, h3, h4])
          · simp [h3, h4]
            exact hr _ _ _ (by simp [Can, h3, h4])
        · simp [h3]
          exact hr _ _ _ (by simp [Can, h3])
      · have hb : (t == 0) = false := by simp [h2]
        simp [hb]
        exact hr _ _ _ (by simp [Can, h2])
    · simp [h0, h1]
      exact hr _ _ _ (by simp [Can, h0, h1])

theorem canR (k t c : Int) : RunF Try.prog T.T 92 [hd k t c] (B (decide (Can k t c))) := by
  refine RunF.ev 999 Try.func92 rfl rfl rfl rfl rfl fun C hr hn => ?_
  by_cases h1 : k = 1
  · subst h1
    by_cases h2 : t = 0
    · subst h2
      by_cases h3 : 0 ≤ c
      · by_cases h4 : c ≤ 64
        · simp [h3, h4]
          exact hr _ _ _ (by simp [Can, h3, h4])
        · simp [h3, h4]
          exact hr _ _ _ (by simp [Can, h3, h4])
      · simp [h3]
        exact hr _ _ _ (by simp [Can, h3])
    · have hb : (t == 0) = false := by simp [h2]
      simp [hb]
      exact hr _ _ _ (by simp [Can, h2])
  · by_cases h0 : k = 0
    · subst h0
      by_cases h1 : 0 ≤ t
      · by_cases h2 : t ≤ 15
        · by_cases h3 : 1 ≤ c
          · by_cases h4 : c ≤ 6
            · simp [h1, h2, h3, h4]
              exact hr _ _ _ (by simp [Can, h1, h2, h4]; omega)
            · simp [h1, h2, h3, h4]
              exact hr _ _ _ (by simp [Can, h1, h2, h4])
          · simp [h1, h2, h3]
            exact hr _ _ _ (by simp [Can, h1, h2]; omega)
        · simp [h1, h2]
          exact hr _ _ _ (by simp [Can, h1, h2])
      · simp [h1]
        exact hr _ _ _ (by simp [Can, h1])
    · have hb : (k == 0) = false := by simp [h0]
      have hb1 : (k == 1) = false := by simp [h1]
      simp [h1, hb, hb1]
      exact hr _ _ _ (by simp [Can, h0, h1])

theorem bodyF (k t c : Int) (h : Can k t c) : RunF Try.prog T.T 93 [hd k t c] (I (body k c)) := by
  refine RunF.ev 999 Try.func93 rfl rfl rfl rfl rfl fun C hr hn => ?_
  by_cases h1 : k = 1
  · subst h1
    have h := h
    simp [Can] at h
    have e1 : IntKind.i64.wrap (c + 7) = c + 7 := wrap64_id (by omega) (by omega)
    simp [e1]
    refine hr _ _ _ ?_
    obtain ⟨m, rfl⟩ := Int.eq_ofNat_of_zero_le h.2.1
    have e2 : ((m : Int) + 7).fdiv (2 ^ min 3 IntKind.i64.bits) = ((m + 7) / 8 : Nat) := by
      show ((m : Int) + 7).fdiv 8 = _
      rw [Int.fdiv_eq_ediv_of_nonneg _ (by omega)]; omega
    simp [body, e2]
  · simp [h1]
    exact hr _ _ _ (by simp [body, h1]; simp [Can, h1] at h; omega)

theorem sizeF (k t c : Int) : RunF Try.prog T.T 49 [hd k t c] (I (size k t c)) := by
  refine RunF.ev 999 Try.func49 rfl rfl rfl rfl rfl fun C hr hn => ?_
  simp
  refine Stk.callF 999 (can k t c) rfl rfl rfl (by simp) rfl rfl ?_
  by_cases h : Can k t c
  · simp [h]
    refine Stk.callF 999 (bodyF k t c h) rfl rfl rfl (by simp) rfl rfl ?_
    have e1 : IntKind.i64.wrap (2 + (body k c : Int)) = ((2 + body k c : Nat) : Int) := by
      rw [wrap64_id (by omega) (by unfold body; unfold Can at h; split <;> omega)]; omega
    simp [e1]
    exact hr _ _ _ (by simp [size, h])
  · simp [h]
    exact hr _ _ _ (by simp [size, h])

theorem sizeR (k t c : Int) : RunF Try.prog T.T 36 [hd k t c] (I (size k t c)) := by
  refine RunF.ev 999 Try.func36 rfl rfl rfl rfl rfl fun C hr hn => ?_
  simp
  refine Stk.callF 999 (canR k t c) rfl rfl rfl (by simp) rfl rfl ?_
  by_cases h : Can k t c
  · by_cases h1 : k = 1
    · subst h1
      have h2 := h
      simp [Can] at h2
      obtain ⟨m, rfl⟩ := Int.eq_ofNat_of_zero_le h2.2.1
      have e1 : IntKind.i64.wrap ((m : Int) + 7) = ((m + 7 : Nat) : Int) := by rw [wrap64_id (by omega) (by omega)]; omega
      have e2 : (((m + 7 : Nat) : Int)).tdiv 8 = ((m + 7) / 8 : Nat) := rfl
      obtain ⟨q, hq⟩ : ∃ q, q = (m + 7) / 8 := ⟨_, rfl⟩
      rw [← hq] at e2
      have e3 : IntKind.i64.wrap (q : Int) = q := wrap64_id (by omega) (by omega)
      have e4 : IntKind.i64.wrap (2 + (q : Int)) = ((2 + q : Nat) : Int) := by rw [wrap64_id (by omega) (by omega)]; omega
      simp only [h, decide_true]
      simp [-Int.natCast_add, e1, e2, e3, e4]
      exact hr _ _ _ (by simp [size, h, body, hq])
    · have h2 := h
      simp [Can, h1] at h2
      have e1 : IntKind.i64.wrap (2 + c) = ((2 + c.toNat : Nat) : Int) := by rw [wrap64_id (by omega) (by omega)]; omega
      simp [h, h1, e1]
      exact hr _ _ _ (by simp [size, h, body, h1])
  · simp [h]
    exact hr _ _ _ (by simp [size, h])

theorem ptr (a : Nat) (h : a < 2147483648) : RunF Try.prog T.T 41 [.sc (.int .u32 a)] (U (2 * a : Nat)) := by
  refine RunF.ev 999 Try.func41 rfl rfl rfl rfl rfl fun C hr hn => ?_
  have e1 : IntKind.u64.wrap (a : Int) = a := wrapu64_id (by omega) (by omega)
  have e2 : IntKind.u64.wrap ((a : Int) * 2 ^ min 1 IntKind.u64.bits) = ((2 * a : Nat) : Int) := by
    show IntKind.u64.wrap ((a : Int) * 2) = _
    rw [wrapu64_id (by omega) (by omega)]; omega
  simp [e1, e2]
  exact hr _ _ _ (by simp [e2])
end Go.Proofs.Ytfflojbgikfbmaa.Hea
