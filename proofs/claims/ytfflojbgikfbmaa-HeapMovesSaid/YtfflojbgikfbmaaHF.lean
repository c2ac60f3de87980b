/-
  The heap: words as places and as heads.
-/
import Derived.Test.YtfflojbgikfbmaaHD
namespace Go.Proofs.Ytfflojbgikfbmaa.Hea
open Go.Proofs.YtfflojbgikfbmaaW.Ah
open Go.Proofs.Ytfflojbgikfbmaa.Sta (U Er eU wrap_nsub wrap_pred load_u)
set_option maxRecDepth 4000
set_option linter.unusedVariables false
set_option linter.unusedSimpArgs false
attribute [local simp] T.t3 T.t4 T.t5 T.t26 T.t34 T.t39 T.t40 T.t62 T.t63 T.t70 T.t93 T.t144 Op.maxDepth List.range List.range.loop
attribute [-simp] appendAV cellsOf cellOk partOk
attribute [local simp] cellsOf_sc cellOk_sc partOk_sc cellsOf_own cellOk_own partOk_own cellsOf_osl cellOk_osl partOk_osl cellsOf_sh cellOk_sh partOk_sh cellsOf_ssl cellOk_ssl partOk_ssl cellsOf_esl cellOk_esl partOk_esl cellsOf_fn cellOk_fn partOk_fn cellsOf_omap cellOk_omap partOk_omap cellsOf_agg partOk_agg cellsOf_slv cellOk_slv partOk_slv

/-- A word's place. -/
def place (w : Int) : Option Nat := if w % 2 = 1 ∨ ¬ (0 ≤ w ∧ w < 8589934592) ∨ w = 0 then none else some (w / 2).toNat

theorem and_one (w : Int) : IntKind.u64.wrap (((w % 2 ^ IntKind.u64.bits).toNat &&& 1 % 2 ^ IntKind.u64.bits : Nat) : Int) = w % 2 := by
  have e : (1 % 2 ^ IntKind.u64.bits : Nat) = 1 := by decide
  rw [e, Nat.and_one_is_mod]
  have e2 : (w % 2 ^ IntKind.u64.bits).toNat % 2 = (w % 2).toNat := by
    show (w % 18446744073709551616).toNat % 2 = (w % 2).toNat
    omega
  rw [e2, wrapu64_id (by omega) (by omega)]
  omega

theorem and_mask (a m : Nat) (hm : m ≤ 60) (ha : a < 18446744073709551616) : IntKind.u64.wrap ((a % 2 ^ IntKind.u64.bits &&& (2 ^ m - 1) % 2 ^ IntKind.u64.bits : Nat) : Int) = ((a % 2 ^ m : Nat) : Int) := by
  have hp : 2 ^ m ≤ 2 ^ 60 := Nat.pow_le_pow_right (by decide) hm
  have hp0 : 0 < 2 ^ m := Nat.pow_pos (by decide)
  have e1 : (2 ^ m - 1) % 2 ^ IntKind.u64.bits = 2 ^ m - 1 := Nat.mod_eq_of_lt (by show 2 ^ m - 1 < 18446744073709551616; omega)
  have e2 : a % 2 ^ IntKind.u64.bits = a := Nat.mod_eq_of_lt (by show a < 18446744073709551616; omega)
  rw [e1, e2, Nat.and_two_pow_sub_one_eq_mod, wrapu64_id (by omega) (by have := Nat.mod_lt a hp0; omega)]

theorem atF (w : Int) : RunF Try.prog T.T 142 [U w] (.tup [.sc (.int .u32 ((place w).getD 0 : Nat)), B (place w).isSome]) := by
  refine RunF.ev 999 Try.func142 rfl rfl rfl rfl rfl fun C hr hn => ?_
  have f1 : w.fdiv (2 ^ min 33 IntKind.u64.bits) = w / 8589934592 := by
    show w.fdiv 8589934592 = _
    exact Int.fdiv_eq_ediv_of_nonneg _ (by omega)
  have f2 : w.fdiv (2 ^ min 1 IntKind.u64.bits) = w / 2 := by
    show w.fdiv 2 = _
    exact Int.fdiv_eq_ediv_of_nonneg _ (by omega)
  by_cases h1 : w % 2 = 1
  · have hb : (w % 2 == 1) = true := by simp [h1]
    have hp : place w = none := by unfold place; rw [if_pos (.inl h1)]
    simp [and_one, hb]
    exact hr _ _ _ (by simp [hp])
  · have hb : (w % 2 == 1) = false := by simp; omega
    by_cases h2 : 0 ≤ w ∧ w < 8589934592
    · have hd : (w / 8589934592 != 0) = false := by simp; omega
      by_cases h3 : w = 0
      · have hp : place w = none := by unfold place; rw [if_pos (.inr (.inr h3))]
        have h3b : (w == 0) = true := by simp [h3]
        simp [and_one, hb, f1, hd, h3b]
        exact hr _ _ _ (by simp [hp])
      · have h3b : (w == 0) = false := by simp [h3]
        have hp : place w = some (w / 2).toNat := by unfold place; rw [if_neg (by omega)]
        have e4 : IntKind.u32.wrap (w / 2) = w / 2 := wrapu32_id (by omega) (by omega)
        simp [and_one, hb, f1, f2, hd, h3b, e4]
        exact hr _ _ _ (by simp [hp]; omega)
    · have hd : (w / 8589934592 != 0) = true := by simp; omega
      have hp : place w = none := by unfold place; rw [if_pos (.inr (.inl h2))]
      simp [and_one, hb, f1, hd]
      exact hr _ _ _ (by simp [hp])

def rk (w : Int) : Int := IntKind.i64.wrap (IntKind.u64.wrap (((IntKind.u64.wrap (w.tdiv 65536) % 2 ^ IntKind.u64.bits).toNat &&& 15 % 2 ^ IntKind.u64.bits : Nat) : Int))
def rt (w : Int) : Int := IntKind.i64.wrap (IntKind.u64.wrap (((IntKind.u64.wrap (w.tdiv 256) % 2 ^ IntKind.u64.bits).toNat &&& 255 % 2 ^ IntKind.u64.bits : Nat) : Int))
def rc (w : Int) : Int := IntKind.i64.wrap (IntKind.u64.wrap (((w % 2 ^ IntKind.u64.bits).toNat &&& 255 % 2 ^ IntKind.u64.bits : Nat) : Int))

theorem toNat_mod (a : Nat) : ((a : Int) % 2 ^ IntKind.u64.bits).toNat = a % 2 ^ IntKind.u64.bits := by
  show ((a : Int) % 18446744073709551616).toNat = a % 18446744073709551616
  omega

theorem r_in (w : Int) (h0 : 0 ≤ w) (h1 : w < 1048576) : rk w = w / 65536 ∧ rt w = w / 256 % 256 ∧ rc w = w % 256 := by
  obtain ⟨a, rfl⟩ := Int.eq_ofNat_of_zero_le h0
  have d1 : (a : Int).tdiv 65536 = (a / 65536 : Nat) := rfl
  have d2 : (a : Int).tdiv 256 = (a / 256 : Nat) := rfl
  have m1 := and_mask (a / 65536) 4 (by decide) (by omega)
  have m2 := and_mask (a / 256) 8 (by decide) (by omega)
  have m3 := and_mask a 8 (by decide) (by omega)
  simp only [show (2 : Nat) ^ 4 - 1 = 15 from rfl, show (2 : Nat) ^ 4 = 16 from rfl] at m1
  simp only [show (2 : Nat) ^ 8 - 1 = 255 from rfl, show (2 : Nat) ^ 8 = 256 from rfl] at m2 m3
  refine ⟨?_, ?_, ?_⟩
  · unfold rk
    rw [d1, wrapu64_id (x := ((a / 65536 : Nat) : Int)) (by omega) (by omega), toNat_mod, m1, wrap64_id (by omega) (by omega)]; omega
  · unfold rt
    rw [d2, wrapu64_id (x := ((a / 256 : Nat) : Int)) (by omega) (by omega), toNat_mod, m2, wrap64_id (by omega) (by omega)]; omega
  · unfold rc
    rw [toNat_mod, m3, wrap64_id (by omega) (by omega)]; omega

/-- What a word says of a record. -/
def rd (w : Int) : Option (Int × Int × Int) := if 0 ≤ w ∧ w < 1048576 ∧ Can (w / 65536) (w / 256 % 256) (w % 256) then some (w / 65536, w / 256 % 256, w % 256) else none

def rdV (w : Int) : AV := match rd w with
  | some x => .tup [hd x.1 x.2.1 x.2.2, B true]
  | none => .tup [hd 0 0 0, B false]

theorem readF (w : Int) : RunF Try.prog T.T 57 [U w] (rdV w) := by
  refine RunF.ev 999 Try.func57 rfl rfl rfl rfl rfl fun C hr hn => ?_
  simp
  refine Stk.callF 999 (headF (rk w) (rt w) (rc w)) rfl rfl rfl (by simp [rk, rt, rc]) rfl rfl ?_
  by_cases hc : Can (rk w) (rt w) (rc w)
  · by_cases he : hv (rk w) (rt w) (rc w) = w
    · have hin : 0 ≤ w ∧ w < 1048576 := by rw [← he]; unfold hv; unfold Can at hc; omega
      obtain ⟨g1, g2, g3⟩ := r_in w hin.1 hin.2
      have hrd : rd w = some (w / 65536, w / 256 % 256, w % 256) := by unfold rd; rw [if_pos ⟨hin.1, hin.2, by rw [← g1, ← g2, ← g3]; exact hc⟩]
      have heb : (w != w) = false := by simp
      rw [g1, g2, g3] at hc he
      have h' : IntKind.i64.wrap (IntKind.u64.wrap (((IntKind.u64.wrap (w.tdiv 65536) % 2 ^ IntKind.u64.bits).toNat &&& 15 % 2 ^ IntKind.u64.bits : Nat) : Int)) = w / 65536 := g1
      have h'' : IntKind.i64.wrap (IntKind.u64.wrap (((IntKind.u64.wrap (w.tdiv 256) % 2 ^ IntKind.u64.bits).toNat &&& 255 % 2 ^ IntKind.u64.bits : Nat) : Int)) = w / 256 % 256 := g2
      have h3 : IntKind.i64.wrap (IntKind.u64.wrap (((w % 2 ^ IntKind.u64.bits).toNat &&& 255 % 2 ^ IntKind.u64.bits : Nat) : Int)) = w % 256 := g3
      simp [g1, g2, g3, hc, he, partOf]
      exact hr _ _ _ (by simp [rdV, hrd, partOf, h', h'', h3])
    · have hrd : rd w = none := by
        unfold rd
        rw [if_neg]
        rintro ⟨h0, h1, h2⟩
        obtain ⟨g1, g2, g3⟩ := r_in w h0 h1
        rw [g1, g2, g3] at he
        apply he; unfold hv; omega
      have heb : (hv (rk w) (rt w) (rc w) != w) = true := by simp [he]
      simp [hc, heb]
      exact hr _ _ _ (by simp [rdV, hrd, partOf])
  · have hrd : rd w = none := by
      unfold rd
      rw [if_neg]
      rintro ⟨h0, h1, h2⟩
      obtain ⟨g1, g2, g3⟩ := r_in w h0 h1
      rw [g1, g2, g3] at hc
      exact hc h2
    simp [hc]
    exact hr _ _ _ (by simp [rdV, hrd, partOf])
end Go.Proofs.Ytfflojbgikfbmaa.Hea
