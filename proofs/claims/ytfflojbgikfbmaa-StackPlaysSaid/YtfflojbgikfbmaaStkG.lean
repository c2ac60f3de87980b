/-
  The statement StackSlots.
-/
import Derived.Test.YtfflojbgikfbmaaStkF
import Derived.Test.YtfflojbgikfbmaaAhC
namespace Go.Proofs.Ytfflojbgikfbmaa.Sta
open Go.Proofs.YtfflojbgikfbmaaW.Ah
set_option maxRecDepth 4000
set_option linter.unusedVariables false
set_option linter.unusedSimpArgs false
attribute [local simp] T.t3 T.t4 T.t5 T.t26 T.t39 T.t40 T.t41 T.t47 T.t49 T.t128 T.t130 T.t132 T.t135 T.t79 Op.maxDepth List.range List.range.loop
attribute [-simp] appendAV cellsOf cellOk partOk
attribute [local simp] cellsOf_sc cellOk_sc partOk_sc cellsOf_own cellOk_own partOk_own cellsOf_osl cellOk_osl partOk_osl cellsOf_sh cellOk_sh partOk_sh cellsOf_ssl cellOk_ssl partOk_ssl cellsOf_esl cellOk_esl partOk_esl cellsOf_fn cellOk_fn partOk_fn cellsOf_omap cellOk_omap partOk_omap cellsOf_agg partOk_agg cellsOf_slv cellOk_slv partOk_slv

theorem tmod_nat {u : Int} {k : Nat} (h0 : 0 ≤ u) (hk : 0 < k) : ∃ a : Nat, a < k ∧ u.tmod (k : Int) = a := by
  refine ⟨u.toNat % k, Nat.mod_lt _ hk, ?_⟩
  obtain ⟨n, rfl⟩ := Int.eq_ofNat_of_zero_le h0
  simp [Int.tmod]

theorem load_u (xs : List Int) (m : Nat) (hlt : m < xs.length) : partOf T.T 40 ((encs eU xs).drop m) 0 = some (U xs[m]) := part_one (f := U) T.t40 rfl xs m hlt

noncomputable def body5 : Code := Try.f5.body.getD .skip

theorem pD (xs : List Int) (a b : Nat) (x : Int) (C : Cont) (hC : ∀ t H n, resOf T.T Try.f5.results.toList ⟨t, H, n⟩ = some (B true) → C .ret t H n) (h0 : ¬ xs.length = 0) (hb : ¬ xs.length > 200) (ha : a < xs.length) (p : Nat) (ia ib : Option Nat) (t : Nat → AV) (H : Mem) (n : Nat)
    (t0 : t 0 = .ssl (encs eU xs) xs.length false) (t3 : t 3 = U x) (t9 : t 9 = .own p 0) (t13 : t 13 = I a) (zs : List Int) (i : Nat) (c : Option Nat) (rest : List AV) (t20 : t 20 = .osl i 0 zs.length c) (t21 : t 21 = I 0) (hi : H i = some (.cells (encs eU zs ++ rest) 40))
    (st : St H n p ⟨zs, [], xs.length, xs.length⟩ ia ib) (hzl : 0 < zs.length ∧ zs.length ≤ xs.length) (hz : ∀ j (h : j + 1 < zs.length) (h' : j < xs.length), zs[j] = (xs.set a x)[j]'(by simpa using h')) :
    Stk Try.prog T.T 190 (codes ((seqs body5).drop 20)) t H n C := by
  have hwz := wrap_pred (a := zs.length) (by omega) (by omega)
  refine Stk.cut (l' := []) [_, _, _] rfl fun J hJ => ?_
  refine evS_sound (f := 999) ?_
  simp [codes]
  refine Stk.loop 999 (fun μ t H2 n2 => H2 = H ∧ n2 = n ∧ ∃ m : Nat, m ≤ zs.length - 1 ∧ μ = zs.length - m ∧ t 0 = .ssl (encs eU xs) xs.length false ∧ t 3 = U x ∧ t 9 = .own p 0 ∧ t 13 = I a ∧ t 20 = .osl i 0 zs.length c ∧ t 21 = I m) zs.length ?_ ?_
  · exact ⟨rfl, rfl, 0, Nat.zero_le _, rfl, t0, t3, t9, t13, t20, t21⟩
  clear t0 t3 t9 t13 t20 t21
  rintro J2 hJ2 μ t H2 n2 ⟨rfl, rfl, m, hm, rfl, t0, t3, t9, t13, t20, t21⟩
  simp [t20, t21, hwz]
  refine ⟨fun hlt => ?_, fun hge => ?_⟩
  · have hmz : m < zs.length := by omega
    have hmx : m < xs.length := by omega
    have hzm := hz m (by omega) hmx
    have hce := cell_own (e := eU) (z := 1) zs rest m 0 hmz (by omega)
    have hld := load_u xs m hmx
    have hw := wrap_succ m (by omega)
    simp at hce
    refine Stk.regionD 999 [.rd [], .rd [], .rd [], .rd [], .rd [], .rd [], .rd [], .rd [i], .rd [], .rd [], .rd [], .rd [], .rd [], .rd [], .rd [], .rd [], .rd [], .rd [], .rd [], .rd [i], .rd [], .rd [], .rd [], .rd [], .rd [], .rd [], .rd []] none (by kernel_rfl) (by rfl) rfl (by simp [below, *]) rfl ?_
    by_cases hma : m = a
    · subst hma
      simp at hzm
      rw [hzm] at hce
      have hco : partOf T.T 40 (encs eU zs ++ rest) m = some (U x) := by simp [partOf, hce]
      simp [t0, t3, t9, t13, t20, t21, hmz, hi, hco, hw]
      exact ⟨zs.length - (m + 1), by omega, hJ2 _ _ _ _ ⟨rfl, rfl, m + 1, by omega, rfl, by simp [t0], by simp [t3], by simp [t9], by simp [t13], by simp [t20], by simp⟩⟩
    · simp [Ne.symm hma] at hzm
      rw [hzm] at hce
      have hmb : ((m : Int) == (a : Int)) = false := by simp; omega
      have hmb2 : ((m : Int) != (a : Int)) = true := by simp; omega
      have hco : partOf T.T 40 (encs eU zs ++ rest) m = some (U xs[m]) := by simp [partOf, hce]
      simp [t0, t3, t9, t13, t20, t21, hmz, hmx, hi, hco, hld, hw, hmb, hmb2]
      exact ⟨zs.length - (m + 1), by omega, hJ2 _ _ _ _ ⟨rfl, rfl, m + 1, by omega, rfl, by simp [t0], by simp [t3], by simp [t9], by simp [t13], by simp [t20], by simp⟩⟩
  · simp [t0, t9]
    refine Stk.callS 999 (dump st) rfl rfl rfl (by simp) ?_
    rintro v H3 n3 ⟨o1, c1, o2, rfl, _⟩
    simp [t0]
    refine Stk.callF 999 awake rfl rfl rfl (by simp) rfl rfl ?_
    simp
    exact hC _ _ _ (by simp)

theorem pC (xs : List Int) (a b : Nat) (x : Int) (C : Cont) (hC : ∀ t H n, resOf T.T Try.f5.results.toList ⟨t, H, n⟩ = some (B true) → C .ret t H n) (h0 : ¬ xs.length = 0) (hb : ¬ xs.length > 200) (ha : a < xs.length) (hbl : b < xs.length) (p : Nat) (ia ib : Option Nat) (t : Nat → AV) (H : Mem) (n : Nat)
    (t0 : t 0 = .ssl (encs eU xs) xs.length false) (t3 : t 3 = U x) (t9 : t 9 = .own p 0) (t13 : t 13 = I a) (t14 : t 14 = I b) (ys : List Int) (hys : ys = xs.set a x) (st : St H n p ⟨ys, [], xs.length, xs.length⟩ ia ib) :
    Stk Try.prog T.T 190 (codes ((seqs body5).drop 13)) t H n C := by
  have hyl : ys.length = xs.length := by rw [hys]; simp
  have hbs2 : Sk.base ⟨ys, [], xs.length, xs.length⟩ = 0 := rfl
  refine Stk.cut (l' := (seqs body5).drop 20) [_, _, _, _, _, _, _] rfl fun J hJ => ?_
  refine evS_sound (f := 999) ?_
  simp [codes]
  have hwl := wrap_pred (a := xs.length) (by omega) (by omega)
  simp [t0, t9, hwl]
  refine Stk.callS 999 (get st (xs.length - 1 : Nat)) rfl rfl rfl (by simp) ?_
  rintro v H2 n2 ⟨rfl, rfl, rfl⟩
  rw [if_pos (by rw [hbs2]; simp [hyl]; omega), hbs2]
  have hly : xs.length - 1 < ys.length := by omega
  obtain ⟨z, hz0⟩ : ∃ z, z = ys[xs.length - 1] := ⟨_, rfl⟩
  have hgz : ys[xs.length - 1]?.getD 0 = z := by rw [List.getElem?_eq_getElem hly, hz0]; rfl
  simp [hgz, t9, t14]
  refine Stk.callS 999 (slide st b) rfl rfl rfl (by simp) ?_
  rintro v H2 n2 hz
  rw [if_pos (by rw [hbs2]; simp [hyl]; omega)] at hz
  obtain ⟨rfl, ia', ib', st2⟩ := hz
  replace st2 := st2.st
  simp [hyl, hgz] at st2
  clear st
  obtain ⟨zs, hzs⟩ : ∃ zs, zs = ys.take (xs.length - 1 - b) ++ [z] := ⟨_, rfl⟩
  have hzl : zs.length = xs.length - b := by rw [hzs]; simp; omega
  have hzj : ∀ j (h : j + 1 < zs.length) (h' : j < xs.length), zs[j] = (xs.set a x)[j]'(by simpa using h') := by
    intro j h h'
    have hj : j < (ys.take (xs.length - 1 - b)).length := by simp; omega
    simp only [hzs]
    rw [List.getElem_append_left hj, List.getElem_take]
    simp only [hys]
  rw [← hzs] at st2
  simp [t9]
  refine Stk.callS 999 (roots st2) rfl rfl rfl (by simp) ?_
  rintro v H3 n3 ⟨o', c, rfl, q1, q2, q3, q4⟩
  have st3 := st2.far q2 q4
  cases o' with
  | none => simp only [Own] at q1; rw [q1] at hzl; simp only [List.length_nil] at hzl; omega
  | some i =>
    obtain ⟨rest, q1⟩ := q1
    simp only at q1
    have hwz := wrap_pred (a := zs.length) (by omega) (by omega)
    have hwb : IntKind.i64.wrap ((xs.length : Int) - b) = (zs.length : Int) := by rw [wrap64_id (by omega) (by omega)]; omega
    have hk : zs.length - 1 < zs.length := by omega
    have hce := cell_own (e := eU) (z := 1) zs rest (zs.length - 1) 0 hk (by omega)
    have hzz : zs[zs.length - 1] = z := by simp [hzs]
    simp [hzz] at hce
    simp [slc, t0, t14, hwb, hwz, q1, hce, partOf, hk]
    exact hJ _ _ _ (pD xs a b x C hC h0 hb ha p ia' ib' _ _ _ (by simp [t0]) (by simp [t3]) (by simp [t9]) (by simp [t13]) zs i c rest (by simp) (by simp) q1 st3 (by omega) hzj)

end Go.Proofs.Ytfflojbgikfbmaa.Sta
